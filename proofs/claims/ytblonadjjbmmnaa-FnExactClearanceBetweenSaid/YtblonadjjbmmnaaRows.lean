/-
  No cell of these rows narrows 'for every input' (looked for: loops, veiled, ifaces, maps, wideKeys, modest, calm, conditions, laid).
  DERIVED. THE GIVEN ROWS OF THIS SEAT. 10 by the template 'for every input the law returns true; each argument reads behind the call as it read before'; 0 by the template 'total and deterministic' (their statements: YtblonadjjbmmnaaTotals.lean).
  GIVEN WITH THE SEED: the statements are not yours to turn. If you find one false, say at which input.
  Laid BY PROGRAM, IN A SANDBOX (cutbox-rows.mjs): the forced cells as the released guide's own fill.sh prints them over the translation bc7a724ce5f6c842… (all of the seat's roots in one cut). By AI agents, Wed Nov 11 2026. No macro, syntax, notation, axiom, sorry.
-/
import Derived.Test.YtblonadjjbmmnaaChecked
import GoSem.Claim
import GoSem.ClaimJoined
import GoSem.ClaimMapViews
import Derived.JoinedTies
import Derived.KernelRfl
namespace Go.Proofs.Ytblonadjjbmmnaa
/- THE CELL 'sum', in the pinned program and in every row, IS THE sha256 OF THE DUMP (.gsa) THAT YtblonadjjbmmnaaProg.lean LOADS. Nothing in Lean hashes anything: it is a label: what it is worth is what the hold of that sum in a sandbox is worth. -/
noncomputable def Try.pinned : Pinned := { name := "ytblonadjjbmmnaa", sum := "bc7a724ce5f6c842d589226c70c679bdd5efbe87d5795603de298cc4b3440558", checked := Try.checked }
namespace Rows
def none {H : Type} : Left H := { results := [], args := [] }

/-- 'laws.FnExactSamePlate': WHATEVER THE INPUT: true; the input reads as it did. -/
def fnExactSamePlateSpec : ChangeSpec := { name := "fnExactSamePlate", fn := fun _ => fun
  | [d1, d2] => { results := [.lit (.bool true)], args := [d1, d2] }
  | _ => none }
def fnExactSamePlateRow : OpenClaim := { program := "ytblonadjjbmmnaa", sum := "bc7a724ce5f6c842d589226c70c679bdd5efbe87d5795603de298cc4b3440558", func := "loop.example/g00921/laws.FnExactSamePlate", spec := "fnExactSamePlate", apart := false }
def FnExactSamePlateSaid : Prop := fnExactSamePlateRow.holds Try.pinned (OpenSpec.ofChange fnExactSamePlateSpec)

/-- ITS FALSE NEIGHBOUR: 'it returns false'. Refute it at one input. -/
def fnExactSamePlateWrong : ChangeSpec := { name := "fnExactSamePlate", fn := fun _ => fun
  | [d1, d2] => { results := [.lit (.bool false)], args := [d1, d2] }
  | _ => none }
def FnExactSamePlateWrongFalsely : Prop := fnExactSamePlateRow.holds Try.pinned (OpenSpec.ofChange fnExactSamePlateWrong)

/-- 'laws.FnExactValidPlate': WHATEVER THE INPUT: true; the input reads as it did. -/
def fnExactValidPlateSpec : ChangeSpec := { name := "fnExactValidPlate", fn := fun _ => fun
  | [d] => { results := [.lit (.bool true)], args := [d] }
  | _ => none }
def fnExactValidPlateRow : OpenClaim := { program := "ytblonadjjbmmnaa", sum := "bc7a724ce5f6c842d589226c70c679bdd5efbe87d5795603de298cc4b3440558", func := "loop.example/g00921/laws.FnExactValidPlate", spec := "fnExactValidPlate", unfollowed := true, recurses := true, apart := false }
def FnExactValidPlateSaid : Prop := fnExactValidPlateRow.holds Try.pinned (OpenSpec.ofChange fnExactValidPlateSpec)

/-- ITS FALSE NEIGHBOUR: 'it returns false'. Refute it at one input. -/
def fnExactValidPlateWrong : ChangeSpec := { name := "fnExactValidPlate", fn := fun _ => fun
  | [d] => { results := [.lit (.bool false)], args := [d] }
  | _ => none }
def FnExactValidPlateWrongFalsely : Prop := fnExactValidPlateRow.holds Try.pinned (OpenSpec.ofChange fnExactValidPlateWrong)

/-- 'laws.FnExactSameWorks': WHATEVER THE INPUT: true; the input reads as it did. -/
def fnExactSameWorksSpec : ChangeSpec := { name := "fnExactSameWorks", fn := fun _ => fun
  | [d1, d2] => { results := [.lit (.bool true)], args := [d1, d2] }
  | _ => none }
def fnExactSameWorksRow : OpenClaim := { program := "ytblonadjjbmmnaa", sum := "bc7a724ce5f6c842d589226c70c679bdd5efbe87d5795603de298cc4b3440558", func := "loop.example/g00921/laws.FnExactSameWorks", spec := "fnExactSameWorks", unfollowed := true, recurses := true, apart := false }
def FnExactSameWorksSaid : Prop := fnExactSameWorksRow.holds Try.pinned (OpenSpec.ofChange fnExactSameWorksSpec)

/-- ITS FALSE NEIGHBOUR: 'it returns false'. Refute it at one input. -/
def fnExactSameWorksWrong : ChangeSpec := { name := "fnExactSameWorks", fn := fun _ => fun
  | [d1, d2] => { results := [.lit (.bool false)], args := [d1, d2] }
  | _ => none }
def FnExactSameWorksWrongFalsely : Prop := fnExactSameWorksRow.holds Try.pinned (OpenSpec.ofChange fnExactSameWorksWrong)

/-- 'laws.FnExactClearanceBetween': WHATEVER THE INPUT: true; the input reads as it did. -/
def fnExactClearanceBetweenSpec : ChangeSpec := { name := "fnExactClearanceBetween", fn := fun _ => fun
  | [d1, d2, d3] => { results := [.lit (.bool true)], args := [d1, d2, d3] }
  | _ => none }
def fnExactClearanceBetweenRow : OpenClaim := { program := "ytblonadjjbmmnaa", sum := "bc7a724ce5f6c842d589226c70c679bdd5efbe87d5795603de298cc4b3440558", func := "loop.example/g00921/laws.FnExactClearanceBetween", spec := "fnExactClearanceBetween", unfollowed := true, recurses := true, apart := false }
def FnExactClearanceBetweenSaid : Prop := fnExactClearanceBetweenRow.holds Try.pinned (OpenSpec.ofChange fnExactClearanceBetweenSpec)

/-- ITS FALSE NEIGHBOUR: 'it returns false'. Refute it at one input. -/
def fnExactClearanceBetweenWrong : ChangeSpec := { name := "fnExactClearanceBetween", fn := fun _ => fun
  | [d1, d2, d3] => { results := [.lit (.bool false)], args := [d1, d2, d3] }
  | _ => none }
def FnExactClearanceBetweenWrongFalsely : Prop := fnExactClearanceBetweenRow.holds Try.pinned (OpenSpec.ofChange fnExactClearanceBetweenWrong)

/-- 'laws.FnExactSitesOutside': WHATEVER THE INPUT: true; the input reads as it did. -/
def fnExactSitesOutsideSpec : ChangeSpec := { name := "fnExactSitesOutside", fn := fun _ => fun
  | [d] => { results := [.lit (.bool true)], args := [d] }
  | _ => none }
def fnExactSitesOutsideRow : OpenClaim := { program := "ytblonadjjbmmnaa", sum := "bc7a724ce5f6c842d589226c70c679bdd5efbe87d5795603de298cc4b3440558", func := "loop.example/g00921/laws.FnExactSitesOutside", spec := "fnExactSitesOutside", unfollowed := true, recurses := true, apart := false }
def FnExactSitesOutsideSaid : Prop := fnExactSitesOutsideRow.holds Try.pinned (OpenSpec.ofChange fnExactSitesOutsideSpec)

/-- ITS FALSE NEIGHBOUR: 'it returns false'. Refute it at one input. -/
def fnExactSitesOutsideWrong : ChangeSpec := { name := "fnExactSitesOutside", fn := fun _ => fun
  | [d] => { results := [.lit (.bool false)], args := [d] }
  | _ => none }
def FnExactSitesOutsideWrongFalsely : Prop := fnExactSitesOutsideRow.holds Try.pinned (OpenSpec.ofChange fnExactSitesOutsideWrong)

/-- 'laws.FnExactValidWorks': WHATEVER THE INPUT: true; the input reads as it did. -/
def fnExactValidWorksSpec : ChangeSpec := { name := "fnExactValidWorks", fn := fun _ => fun
  | [d] => { results := [.lit (.bool true)], args := [d] }
  | _ => none }
def fnExactValidWorksRow : OpenClaim := { program := "ytblonadjjbmmnaa", sum := "bc7a724ce5f6c842d589226c70c679bdd5efbe87d5795603de298cc4b3440558", func := "loop.example/g00921/laws.FnExactValidWorks", spec := "fnExactValidWorks", unfollowed := true, recurses := true, apart := false }
def FnExactValidWorksSaid : Prop := fnExactValidWorksRow.holds Try.pinned (OpenSpec.ofChange fnExactValidWorksSpec)

/-- ITS FALSE NEIGHBOUR: 'it returns false'. Refute it at one input. -/
def fnExactValidWorksWrong : ChangeSpec := { name := "fnExactValidWorks", fn := fun _ => fun
  | [d] => { results := [.lit (.bool false)], args := [d] }
  | _ => none }
def FnExactValidWorksWrongFalsely : Prop := fnExactValidWorksRow.holds Try.pinned (OpenSpec.ofChange fnExactValidWorksWrong)

/-- 'laws.FnExactMirrorPlate': WHATEVER THE INPUT: true; the input reads as it did. -/
def fnExactMirrorPlateSpec : ChangeSpec := { name := "fnExactMirrorPlate", fn := fun _ => fun
  | [d] => { results := [.lit (.bool true)], args := [d] }
  | _ => none }
def fnExactMirrorPlateRow : OpenClaim := { program := "ytblonadjjbmmnaa", sum := "bc7a724ce5f6c842d589226c70c679bdd5efbe87d5795603de298cc4b3440558", func := "loop.example/g00921/laws.FnExactMirrorPlate", spec := "fnExactMirrorPlate", unfollowed := true, recurses := true, apart := false }
def FnExactMirrorPlateSaid : Prop := fnExactMirrorPlateRow.holds Try.pinned (OpenSpec.ofChange fnExactMirrorPlateSpec)

/-- ITS FALSE NEIGHBOUR: 'it returns false'. Refute it at one input. -/
def fnExactMirrorPlateWrong : ChangeSpec := { name := "fnExactMirrorPlate", fn := fun _ => fun
  | [d] => { results := [.lit (.bool false)], args := [d] }
  | _ => none }
def FnExactMirrorPlateWrongFalsely : Prop := fnExactMirrorPlateRow.holds Try.pinned (OpenSpec.ofChange fnExactMirrorPlateWrong)

/-- 'laws.FnExactTurnPlate': WHATEVER THE INPUT: true; the input reads as it did. -/
def fnExactTurnPlateSpec : ChangeSpec := { name := "fnExactTurnPlate", fn := fun _ => fun
  | [d] => { results := [.lit (.bool true)], args := [d] }
  | _ => none }
def fnExactTurnPlateRow : OpenClaim := { program := "ytblonadjjbmmnaa", sum := "bc7a724ce5f6c842d589226c70c679bdd5efbe87d5795603de298cc4b3440558", func := "loop.example/g00921/laws.FnExactTurnPlate", spec := "fnExactTurnPlate", unfollowed := true, recurses := true, apart := false }
def FnExactTurnPlateSaid : Prop := fnExactTurnPlateRow.holds Try.pinned (OpenSpec.ofChange fnExactTurnPlateSpec)

/-- ITS FALSE NEIGHBOUR: 'it returns false'. Refute it at one input. -/
def fnExactTurnPlateWrong : ChangeSpec := { name := "fnExactTurnPlate", fn := fun _ => fun
  | [d] => { results := [.lit (.bool false)], args := [d] }
  | _ => none }
def FnExactTurnPlateWrongFalsely : Prop := fnExactTurnPlateRow.holds Try.pinned (OpenSpec.ofChange fnExactTurnPlateWrong)

/-- 'laws.FnExactArborNamed': WHATEVER THE INPUT: true; the input reads as it did. -/
def fnExactArborNamedSpec : ChangeSpec := { name := "fnExactArborNamed", fn := fun _ => fun
  | [d1, d2] => { results := [.lit (.bool true)], args := [d1, d2] }
  | _ => none }
def fnExactArborNamedRow : OpenClaim := { program := "ytblonadjjbmmnaa", sum := "bc7a724ce5f6c842d589226c70c679bdd5efbe87d5795603de298cc4b3440558", func := "loop.example/g00921/laws.FnExactArborNamed", spec := "fnExactArborNamed", unfollowed := true, recurses := true, apart := false }
def FnExactArborNamedSaid : Prop := fnExactArborNamedRow.holds Try.pinned (OpenSpec.ofChange fnExactArborNamedSpec)

/-- ITS FALSE NEIGHBOUR: 'it returns false'. Refute it at one input. -/
def fnExactArborNamedWrong : ChangeSpec := { name := "fnExactArborNamed", fn := fun _ => fun
  | [d1, d2] => { results := [.lit (.bool false)], args := [d1, d2] }
  | _ => none }
def FnExactArborNamedWrongFalsely : Prop := fnExactArborNamedRow.holds Try.pinned (OpenSpec.ofChange fnExactArborNamedWrong)

/-- 'laws.FnExactPairOf': WHATEVER THE INPUT: true; the input reads as it did. -/
def fnExactPairOfSpec : ChangeSpec := { name := "fnExactPairOf", fn := fun _ => fun
  | [d1, d2] => { results := [.lit (.bool true)], args := [d1, d2] }
  | _ => none }
def fnExactPairOfRow : OpenClaim := { program := "ytblonadjjbmmnaa", sum := "bc7a724ce5f6c842d589226c70c679bdd5efbe87d5795603de298cc4b3440558", func := "loop.example/g00921/laws.FnExactPairOf", spec := "fnExactPairOf", unfollowed := true, recurses := true, apart := false }
def FnExactPairOfSaid : Prop := fnExactPairOfRow.holds Try.pinned (OpenSpec.ofChange fnExactPairOfSpec)

/-- ITS FALSE NEIGHBOUR: 'it returns false'. Refute it at one input. -/
def fnExactPairOfWrong : ChangeSpec := { name := "fnExactPairOf", fn := fun _ => fun
  | [d1, d2] => { results := [.lit (.bool false)], args := [d1, d2] }
  | _ => none }
def FnExactPairOfWrongFalsely : Prop := fnExactPairOfRow.holds Try.pinned (OpenSpec.ofChange fnExactPairOfWrong)

/- THE SECOND FORM. 'bulk': how many values and letters a reading holds, each counted each time it is reached (what is shared counts as often as it is met; a slice's spare places count too). A statement '..UptoSaid' is the law's where the arguments, and the package variables that the reading takes, are together of bulk at most 1048576: NARROWER than '..Said'. Prove '..Said' where nothing that the law and all that it calls make is longer than what came in: it says more and counts as full. Else prove '..UptoSaid'. A law counts once. -/
mutual
def uptoBulk {H : Type} : DataW H → Nat
  | .lit (.string bytes) => bytes.length + 1
  | .lit _ => 1
  | .nil => 1
  | .ptr d => uptoBulk d + 1
  | .slice elems spare => uptoBulkAll elems + uptoBulkAll spare + 1
  | .agg parts => uptoBulkAll parts + 1
  | .iface _ d => uptoBulk d + 1
  | .map entries => uptoBulkEntries entries + 1
  | .held _ => 1
def uptoBulkAll {H : Type} : List (DataW H) → Nat
  | [] => 0
  | d :: r => uptoBulk d + uptoBulkAll r
def uptoBulkEntries {H : Type} : List (Lit × DataW H) → Nat
  | [] => 0
  | x :: r => uptoBulkEntry x + uptoBulkEntries r
def uptoBulkEntry {H : Type} : Lit × DataW H → Nat
  | (.string bytes, d) => bytes.length + uptoBulk d + 1
  | (_, d) => uptoBulk d + 1
 end
def uptoSmall : (H : Type) → List (DataW H) → Bool := fun _ ds => decide (uptoBulkAll ds ≤ 1048576)
def OpenSpec.upto (s : _root_.Go.ChangeSpec) : _root_.Go.OpenSpec := { _root_.Go.OpenSpec.ofChange s with cond := some uptoSmall }

/-- 'laws.FnExactSamePlate', WHERE WHAT IT READS IS OF BULK AT MOST 1048576: true; the input reads as it did. -/
def fnExactSamePlateUptoRow : OpenClaim := { program := "ytblonadjjbmmnaa", sum := "bc7a724ce5f6c842d589226c70c679bdd5efbe87d5795603de298cc4b3440558", func := "loop.example/g00921/laws.FnExactSamePlate", spec := "fnExactSamePlate", apart := false, narrowed := true }
def FnExactSamePlateUptoSaid : Prop := fnExactSamePlateUptoRow.holds Try.pinned (OpenSpec.upto fnExactSamePlateSpec)

/-- 'laws.FnExactValidPlate', WHERE WHAT IT READS IS OF BULK AT MOST 1048576: true; the input reads as it did. -/
def fnExactValidPlateUptoRow : OpenClaim := { program := "ytblonadjjbmmnaa", sum := "bc7a724ce5f6c842d589226c70c679bdd5efbe87d5795603de298cc4b3440558", func := "loop.example/g00921/laws.FnExactValidPlate", spec := "fnExactValidPlate", unfollowed := true, recurses := true, apart := false, narrowed := true }
def FnExactValidPlateUptoSaid : Prop := fnExactValidPlateUptoRow.holds Try.pinned (OpenSpec.upto fnExactValidPlateSpec)

/-- 'laws.FnExactSameWorks', WHERE WHAT IT READS IS OF BULK AT MOST 1048576: true; the input reads as it did. -/
def fnExactSameWorksUptoRow : OpenClaim := { program := "ytblonadjjbmmnaa", sum := "bc7a724ce5f6c842d589226c70c679bdd5efbe87d5795603de298cc4b3440558", func := "loop.example/g00921/laws.FnExactSameWorks", spec := "fnExactSameWorks", unfollowed := true, recurses := true, apart := false, narrowed := true }
def FnExactSameWorksUptoSaid : Prop := fnExactSameWorksUptoRow.holds Try.pinned (OpenSpec.upto fnExactSameWorksSpec)

/-- 'laws.FnExactClearanceBetween', WHERE WHAT IT READS IS OF BULK AT MOST 1048576: true; the input reads as it did. -/
def fnExactClearanceBetweenUptoRow : OpenClaim := { program := "ytblonadjjbmmnaa", sum := "bc7a724ce5f6c842d589226c70c679bdd5efbe87d5795603de298cc4b3440558", func := "loop.example/g00921/laws.FnExactClearanceBetween", spec := "fnExactClearanceBetween", unfollowed := true, recurses := true, apart := false, narrowed := true }
def FnExactClearanceBetweenUptoSaid : Prop := fnExactClearanceBetweenUptoRow.holds Try.pinned (OpenSpec.upto fnExactClearanceBetweenSpec)

/-- 'laws.FnExactSitesOutside', WHERE WHAT IT READS IS OF BULK AT MOST 1048576: true; the input reads as it did. -/
def fnExactSitesOutsideUptoRow : OpenClaim := { program := "ytblonadjjbmmnaa", sum := "bc7a724ce5f6c842d589226c70c679bdd5efbe87d5795603de298cc4b3440558", func := "loop.example/g00921/laws.FnExactSitesOutside", spec := "fnExactSitesOutside", unfollowed := true, recurses := true, apart := false, narrowed := true }
def FnExactSitesOutsideUptoSaid : Prop := fnExactSitesOutsideUptoRow.holds Try.pinned (OpenSpec.upto fnExactSitesOutsideSpec)

/-- 'laws.FnExactValidWorks', WHERE WHAT IT READS IS OF BULK AT MOST 1048576: true; the input reads as it did. -/
def fnExactValidWorksUptoRow : OpenClaim := { program := "ytblonadjjbmmnaa", sum := "bc7a724ce5f6c842d589226c70c679bdd5efbe87d5795603de298cc4b3440558", func := "loop.example/g00921/laws.FnExactValidWorks", spec := "fnExactValidWorks", unfollowed := true, recurses := true, apart := false, narrowed := true }
def FnExactValidWorksUptoSaid : Prop := fnExactValidWorksUptoRow.holds Try.pinned (OpenSpec.upto fnExactValidWorksSpec)

/-- 'laws.FnExactMirrorPlate', WHERE WHAT IT READS IS OF BULK AT MOST 1048576: true; the input reads as it did. -/
def fnExactMirrorPlateUptoRow : OpenClaim := { program := "ytblonadjjbmmnaa", sum := "bc7a724ce5f6c842d589226c70c679bdd5efbe87d5795603de298cc4b3440558", func := "loop.example/g00921/laws.FnExactMirrorPlate", spec := "fnExactMirrorPlate", unfollowed := true, recurses := true, apart := false, narrowed := true }
def FnExactMirrorPlateUptoSaid : Prop := fnExactMirrorPlateUptoRow.holds Try.pinned (OpenSpec.upto fnExactMirrorPlateSpec)

/-- 'laws.FnExactTurnPlate', WHERE WHAT IT READS IS OF BULK AT MOST 1048576: true; the input reads as it did. -/
def fnExactTurnPlateUptoRow : OpenClaim := { program := "ytblonadjjbmmnaa", sum := "bc7a724ce5f6c842d589226c70c679bdd5efbe87d5795603de298cc4b3440558", func := "loop.example/g00921/laws.FnExactTurnPlate", spec := "fnExactTurnPlate", unfollowed := true, recurses := true, apart := false, narrowed := true }
def FnExactTurnPlateUptoSaid : Prop := fnExactTurnPlateUptoRow.holds Try.pinned (OpenSpec.upto fnExactTurnPlateSpec)

/-- 'laws.FnExactArborNamed', WHERE WHAT IT READS IS OF BULK AT MOST 1048576: true; the input reads as it did. -/
def fnExactArborNamedUptoRow : OpenClaim := { program := "ytblonadjjbmmnaa", sum := "bc7a724ce5f6c842d589226c70c679bdd5efbe87d5795603de298cc4b3440558", func := "loop.example/g00921/laws.FnExactArborNamed", spec := "fnExactArborNamed", unfollowed := true, recurses := true, apart := false, narrowed := true }
def FnExactArborNamedUptoSaid : Prop := fnExactArborNamedUptoRow.holds Try.pinned (OpenSpec.upto fnExactArborNamedSpec)

/-- 'laws.FnExactPairOf', WHERE WHAT IT READS IS OF BULK AT MOST 1048576: true; the input reads as it did. -/
def fnExactPairOfUptoRow : OpenClaim := { program := "ytblonadjjbmmnaa", sum := "bc7a724ce5f6c842d589226c70c679bdd5efbe87d5795603de298cc4b3440558", func := "loop.example/g00921/laws.FnExactPairOf", spec := "fnExactPairOf", unfollowed := true, recurses := true, apart := false, narrowed := true }
def FnExactPairOfUptoSaid : Prop := fnExactPairOfUptoRow.holds Try.pinned (OpenSpec.upto fnExactPairOfSpec)

end Rows
end Go.Proofs.Ytblonadjjbmmnaa
