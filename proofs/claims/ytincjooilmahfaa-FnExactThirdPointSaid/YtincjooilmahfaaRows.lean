/-
  No cell of these rows narrows 'for every input' (looked for: loops, veiled, ifaces, maps, wideKeys, modest, calm, conditions, laid).
  DERIVED. THE GIVEN ROWS OF THIS SEAT. 15 by the template 'for every input the law returns true; each argument reads behind the call as it read before'; 0 by the template 'total and deterministic' (their statements: YtincjooilmahfaaTotals.lean).
  GIVEN WITH THE SEED: the statements are not yours to turn. If you find one false, say at which input.
  Laid BY PROGRAM, IN A SANDBOX (cutbox-rows.mjs): the forced cells as the released guide's own fill.sh prints them over the translation c0bfc550eb1fa6ae… (all of the seat's roots in one cut). By AI agents, Wed Nov 11 2026. No macro, syntax, notation, axiom, sorry.
-/
import Derived.Test.YtincjooilmahfaaChecked
import GoSem.Claim
import GoSem.ClaimJoined
import GoSem.ClaimMapViews
import Derived.JoinedTies
import Derived.KernelRfl
namespace Go.Proofs.Ytincjooilmahfaa
/- THE CELL 'sum', in the pinned program and in every row, IS THE sha256 OF THE DUMP (.gsa) THAT YtincjooilmahfaaProg.lean LOADS. Nothing in Lean hashes anything: it is a label: what it is worth is what the hold of that sum in a sandbox is worth. -/
noncomputable def Try.pinned : Pinned := { name := "ytincjooilmahfaa", sum := "c0bfc550eb1fa6ae7c58cdb5c5aed52f4087afee8b113c7233d34dd5eaa024de", checked := Try.checked }
namespace Rows
def none {H : Type} : Left H := { results := [], args := [] }

/-- 'laws.FnExactValidPoint': WHATEVER THE INPUT: true; the input reads as it did. -/
def fnExactValidPointSpec : ChangeSpec := { name := "fnExactValidPoint", fn := fun _ => fun
  | [d] => { results := [.lit (.bool true)], args := [d] }
  | _ => none }
def fnExactValidPointRow : OpenClaim := { program := "ytincjooilmahfaa", sum := "c0bfc550eb1fa6ae7c58cdb5c5aed52f4087afee8b113c7233d34dd5eaa024de", func := "loop.example/g00921/laws.FnExactValidPoint", spec := "fnExactValidPoint", apart := false }
def FnExactValidPointSaid : Prop := fnExactValidPointRow.holds Try.pinned (OpenSpec.ofChange fnExactValidPointSpec)

/-- ITS FALSE NEIGHBOUR: 'it returns false'. Refute it at one input. -/
def fnExactValidPointWrong : ChangeSpec := { name := "fnExactValidPoint", fn := fun _ => fun
  | [d] => { results := [.lit (.bool false)], args := [d] }
  | _ => none }
def FnExactValidPointWrongFalsely : Prop := fnExactValidPointRow.holds Try.pinned (OpenSpec.ofChange fnExactValidPointWrong)

/-- 'laws.FnExactSquaredDistance': WHATEVER THE INPUT: true; the input reads as it did. -/
def fnExactSquaredDistanceSpec : ChangeSpec := { name := "fnExactSquaredDistance", fn := fun _ => fun
  | [d1, d2] => { results := [.lit (.bool true)], args := [d1, d2] }
  | _ => none }
def fnExactSquaredDistanceRow : OpenClaim := { program := "ytincjooilmahfaa", sum := "c0bfc550eb1fa6ae7c58cdb5c5aed52f4087afee8b113c7233d34dd5eaa024de", func := "loop.example/g00921/laws.FnExactSquaredDistance", spec := "fnExactSquaredDistance", apart := false }
def FnExactSquaredDistanceSaid : Prop := fnExactSquaredDistanceRow.holds Try.pinned (OpenSpec.ofChange fnExactSquaredDistanceSpec)

/-- ITS FALSE NEIGHBOUR: 'it returns false'. Refute it at one input. -/
def fnExactSquaredDistanceWrong : ChangeSpec := { name := "fnExactSquaredDistance", fn := fun _ => fun
  | [d1, d2] => { results := [.lit (.bool false)], args := [d1, d2] }
  | _ => none }
def FnExactSquaredDistanceWrongFalsely : Prop := fnExactSquaredDistanceRow.holds Try.pinned (OpenSpec.ofChange fnExactSquaredDistanceWrong)

/-- 'laws.FnExactCentreDistance': WHATEVER THE INPUT: true; the input reads as it did. -/
def fnExactCentreDistanceSpec : ChangeSpec := { name := "fnExactCentreDistance", fn := fun _ => fun
  | [d1, d2] => { results := [.lit (.bool true)], args := [d1, d2] }
  | _ => none }
def fnExactCentreDistanceRow : OpenClaim := { program := "ytincjooilmahfaa", sum := "c0bfc550eb1fa6ae7c58cdb5c5aed52f4087afee8b113c7233d34dd5eaa024de", func := "loop.example/g00921/laws.FnExactCentreDistance", spec := "fnExactCentreDistance", apart := false }
def FnExactCentreDistanceSaid : Prop := fnExactCentreDistanceRow.holds Try.pinned (OpenSpec.ofChange fnExactCentreDistanceSpec)

/-- ITS FALSE NEIGHBOUR: 'it returns false'. Refute it at one input. -/
def fnExactCentreDistanceWrong : ChangeSpec := { name := "fnExactCentreDistance", fn := fun _ => fun
  | [d1, d2] => { results := [.lit (.bool false)], args := [d1, d2] }
  | _ => none }
def FnExactCentreDistanceWrongFalsely : Prop := fnExactCentreDistanceRow.holds Try.pinned (OpenSpec.ofChange fnExactCentreDistanceWrong)

/-- 'laws.FnExactSamePlate': WHATEVER THE INPUT: true; the input reads as it did. -/
def fnExactSamePlateSpec : ChangeSpec := { name := "fnExactSamePlate", fn := fun _ => fun
  | [d1, d2] => { results := [.lit (.bool true)], args := [d1, d2] }
  | _ => none }
def fnExactSamePlateRow : OpenClaim := { program := "ytincjooilmahfaa", sum := "c0bfc550eb1fa6ae7c58cdb5c5aed52f4087afee8b113c7233d34dd5eaa024de", func := "loop.example/g00921/laws.FnExactSamePlate", spec := "fnExactSamePlate", apart := false }
def FnExactSamePlateSaid : Prop := fnExactSamePlateRow.holds Try.pinned (OpenSpec.ofChange fnExactSamePlateSpec)

/-- ITS FALSE NEIGHBOUR: 'it returns false'. Refute it at one input. -/
def fnExactSamePlateWrong : ChangeSpec := { name := "fnExactSamePlate", fn := fun _ => fun
  | [d1, d2] => { results := [.lit (.bool false)], args := [d1, d2] }
  | _ => none }
def FnExactSamePlateWrongFalsely : Prop := fnExactSamePlateRow.holds Try.pinned (OpenSpec.ofChange fnExactSamePlateWrong)

/-- 'laws.FnExactThirdPoint': WHATEVER THE INPUT: true; the input reads as it did. -/
def fnExactThirdPointSpec : ChangeSpec := { name := "fnExactThirdPoint", fn := fun _ => fun
  | [d1, d2, d3, d4, d5] => { results := [.lit (.bool true)], args := [d1, d2, d3, d4, d5] }
  | _ => none }
def fnExactThirdPointRow : OpenClaim := { program := "ytincjooilmahfaa", sum := "c0bfc550eb1fa6ae7c58cdb5c5aed52f4087afee8b113c7233d34dd5eaa024de", func := "loop.example/g00921/laws.FnExactThirdPoint", spec := "fnExactThirdPoint", apart := false }
def FnExactThirdPointSaid : Prop := fnExactThirdPointRow.holds Try.pinned (OpenSpec.ofChange fnExactThirdPointSpec)

/-- ITS FALSE NEIGHBOUR: 'it returns false'. Refute it at one input. -/
def fnExactThirdPointWrong : ChangeSpec := { name := "fnExactThirdPoint", fn := fun _ => fun
  | [d1, d2, d3, d4, d5] => { results := [.lit (.bool false)], args := [d1, d2, d3, d4, d5] }
  | _ => none }
def FnExactThirdPointWrongFalsely : Prop := fnExactThirdPointRow.holds Try.pinned (OpenSpec.ofChange fnExactThirdPointWrong)

/-- 'laws.FnExactValidPlate': WHATEVER THE INPUT: true; the input reads as it did. -/
def fnExactValidPlateSpec : ChangeSpec := { name := "fnExactValidPlate", fn := fun _ => fun
  | [d] => { results := [.lit (.bool true)], args := [d] }
  | _ => none }
def fnExactValidPlateRow : OpenClaim := { program := "ytincjooilmahfaa", sum := "c0bfc550eb1fa6ae7c58cdb5c5aed52f4087afee8b113c7233d34dd5eaa024de", func := "loop.example/g00921/laws.FnExactValidPlate", spec := "fnExactValidPlate", unfollowed := true, recurses := true, apart := false }
def FnExactValidPlateSaid : Prop := fnExactValidPlateRow.holds Try.pinned (OpenSpec.ofChange fnExactValidPlateSpec)

/-- ITS FALSE NEIGHBOUR: 'it returns false'. Refute it at one input. -/
def fnExactValidPlateWrong : ChangeSpec := { name := "fnExactValidPlate", fn := fun _ => fun
  | [d] => { results := [.lit (.bool false)], args := [d] }
  | _ => none }
def FnExactValidPlateWrongFalsely : Prop := fnExactValidPlateRow.holds Try.pinned (OpenSpec.ofChange fnExactValidPlateWrong)

/-- 'laws.FnExactClearanceBetween': WHATEVER THE INPUT: true; the input reads as it did. -/
def fnExactClearanceBetweenSpec : ChangeSpec := { name := "fnExactClearanceBetween", fn := fun _ => fun
  | [d1, d2, d3] => { results := [.lit (.bool true)], args := [d1, d2, d3] }
  | _ => none }
def fnExactClearanceBetweenRow : OpenClaim := { program := "ytincjooilmahfaa", sum := "c0bfc550eb1fa6ae7c58cdb5c5aed52f4087afee8b113c7233d34dd5eaa024de", func := "loop.example/g00921/laws.FnExactClearanceBetween", spec := "fnExactClearanceBetween", unfollowed := true, recurses := true, apart := false }
def FnExactClearanceBetweenSaid : Prop := fnExactClearanceBetweenRow.holds Try.pinned (OpenSpec.ofChange fnExactClearanceBetweenSpec)

/-- ITS FALSE NEIGHBOUR: 'it returns false'. Refute it at one input. -/
def fnExactClearanceBetweenWrong : ChangeSpec := { name := "fnExactClearanceBetween", fn := fun _ => fun
  | [d1, d2, d3] => { results := [.lit (.bool false)], args := [d1, d2, d3] }
  | _ => none }
def FnExactClearanceBetweenWrongFalsely : Prop := fnExactClearanceBetweenRow.holds Try.pinned (OpenSpec.ofChange fnExactClearanceBetweenWrong)

/-- 'laws.FnExactSitesOutside': WHATEVER THE INPUT: true; the input reads as it did. -/
def fnExactSitesOutsideSpec : ChangeSpec := { name := "fnExactSitesOutside", fn := fun _ => fun
  | [d] => { results := [.lit (.bool true)], args := [d] }
  | _ => none }
def fnExactSitesOutsideRow : OpenClaim := { program := "ytincjooilmahfaa", sum := "c0bfc550eb1fa6ae7c58cdb5c5aed52f4087afee8b113c7233d34dd5eaa024de", func := "loop.example/g00921/laws.FnExactSitesOutside", spec := "fnExactSitesOutside", unfollowed := true, recurses := true, apart := false }
def FnExactSitesOutsideSaid : Prop := fnExactSitesOutsideRow.holds Try.pinned (OpenSpec.ofChange fnExactSitesOutsideSpec)

/-- ITS FALSE NEIGHBOUR: 'it returns false'. Refute it at one input. -/
def fnExactSitesOutsideWrong : ChangeSpec := { name := "fnExactSitesOutside", fn := fun _ => fun
  | [d] => { results := [.lit (.bool false)], args := [d] }
  | _ => none }
def FnExactSitesOutsideWrongFalsely : Prop := fnExactSitesOutsideRow.holds Try.pinned (OpenSpec.ofChange fnExactSitesOutsideWrong)

/-- 'laws.FnExactMirrorPlate': WHATEVER THE INPUT: true; the input reads as it did. -/
def fnExactMirrorPlateSpec : ChangeSpec := { name := "fnExactMirrorPlate", fn := fun _ => fun
  | [d] => { results := [.lit (.bool true)], args := [d] }
  | _ => none }
def fnExactMirrorPlateRow : OpenClaim := { program := "ytincjooilmahfaa", sum := "c0bfc550eb1fa6ae7c58cdb5c5aed52f4087afee8b113c7233d34dd5eaa024de", func := "loop.example/g00921/laws.FnExactMirrorPlate", spec := "fnExactMirrorPlate", unfollowed := true, recurses := true, apart := false }
def FnExactMirrorPlateSaid : Prop := fnExactMirrorPlateRow.holds Try.pinned (OpenSpec.ofChange fnExactMirrorPlateSpec)

/-- ITS FALSE NEIGHBOUR: 'it returns false'. Refute it at one input. -/
def fnExactMirrorPlateWrong : ChangeSpec := { name := "fnExactMirrorPlate", fn := fun _ => fun
  | [d] => { results := [.lit (.bool false)], args := [d] }
  | _ => none }
def FnExactMirrorPlateWrongFalsely : Prop := fnExactMirrorPlateRow.holds Try.pinned (OpenSpec.ofChange fnExactMirrorPlateWrong)

/-- 'laws.FnExactTurnPlate': WHATEVER THE INPUT: true; the input reads as it did. -/
def fnExactTurnPlateSpec : ChangeSpec := { name := "fnExactTurnPlate", fn := fun _ => fun
  | [d] => { results := [.lit (.bool true)], args := [d] }
  | _ => none }
def fnExactTurnPlateRow : OpenClaim := { program := "ytincjooilmahfaa", sum := "c0bfc550eb1fa6ae7c58cdb5c5aed52f4087afee8b113c7233d34dd5eaa024de", func := "loop.example/g00921/laws.FnExactTurnPlate", spec := "fnExactTurnPlate", unfollowed := true, recurses := true, apart := false }
def FnExactTurnPlateSaid : Prop := fnExactTurnPlateRow.holds Try.pinned (OpenSpec.ofChange fnExactTurnPlateSpec)

/-- ITS FALSE NEIGHBOUR: 'it returns false'. Refute it at one input. -/
def fnExactTurnPlateWrong : ChangeSpec := { name := "fnExactTurnPlate", fn := fun _ => fun
  | [d] => { results := [.lit (.bool false)], args := [d] }
  | _ => none }
def FnExactTurnPlateWrongFalsely : Prop := fnExactTurnPlateRow.holds Try.pinned (OpenSpec.ofChange fnExactTurnPlateWrong)

/-- 'laws.FnExactHullArea': WHATEVER THE INPUT: true; the input reads as it did. -/
def fnExactHullAreaSpec : ChangeSpec := { name := "fnExactHullArea", fn := fun _ => fun
  | [d] => { results := [.lit (.bool true)], args := [d] }
  | _ => none }
def fnExactHullAreaRow : OpenClaim := { program := "ytincjooilmahfaa", sum := "c0bfc550eb1fa6ae7c58cdb5c5aed52f4087afee8b113c7233d34dd5eaa024de", func := "loop.example/g00921/laws.FnExactHullArea", spec := "fnExactHullArea", unfollowed := true, recurses := true, apart := false }
def FnExactHullAreaSaid : Prop := fnExactHullAreaRow.holds Try.pinned (OpenSpec.ofChange fnExactHullAreaSpec)

/-- ITS FALSE NEIGHBOUR: 'it returns false'. Refute it at one input. -/
def fnExactHullAreaWrong : ChangeSpec := { name := "fnExactHullArea", fn := fun _ => fun
  | [d] => { results := [.lit (.bool false)], args := [d] }
  | _ => none }
def FnExactHullAreaWrongFalsely : Prop := fnExactHullAreaRow.holds Try.pinned (OpenSpec.ofChange fnExactHullAreaWrong)

/-- 'laws.FnThirdPoints': WHATEVER THE INPUT: true; the input reads as it did. -/
def fnThirdPointsSpec : ChangeSpec := { name := "fnThirdPoints", fn := fun _ => fun
  | [d] => { results := [.lit (.bool true)], args := [d] }
  | _ => none }
def fnThirdPointsRow : OpenClaim := { program := "ytincjooilmahfaa", sum := "c0bfc550eb1fa6ae7c58cdb5c5aed52f4087afee8b113c7233d34dd5eaa024de", func := "loop.example/g00921/laws.FnThirdPoints", spec := "fnThirdPoints", apart := false }
def FnThirdPointsSaid : Prop := fnThirdPointsRow.holds Try.pinned (OpenSpec.ofChange fnThirdPointsSpec)

/-- ITS FALSE NEIGHBOUR: 'it returns false'. Refute it at one input. -/
def fnThirdPointsWrong : ChangeSpec := { name := "fnThirdPoints", fn := fun _ => fun
  | [d] => { results := [.lit (.bool false)], args := [d] }
  | _ => none }
def FnThirdPointsWrongFalsely : Prop := fnThirdPointsRow.holds Try.pinned (OpenSpec.ofChange fnThirdPointsWrong)

/-- 'laws.FnPlates': WHATEVER THE INPUT: true; the input reads as it did. -/
def fnPlatesSpec : ChangeSpec := { name := "fnPlates", fn := fun _ => fun
  | [d] => { results := [.lit (.bool true)], args := [d] }
  | _ => none }
def fnPlatesRow : OpenClaim := { program := "ytincjooilmahfaa", sum := "c0bfc550eb1fa6ae7c58cdb5c5aed52f4087afee8b113c7233d34dd5eaa024de", func := "loop.example/g00921/laws.FnPlates", spec := "fnPlates", unfollowed := true, recurses := true, apart := false }
def FnPlatesSaid : Prop := fnPlatesRow.holds Try.pinned (OpenSpec.ofChange fnPlatesSpec)

/-- ITS FALSE NEIGHBOUR: 'it returns false'. Refute it at one input. -/
def fnPlatesWrong : ChangeSpec := { name := "fnPlates", fn := fun _ => fun
  | [d] => { results := [.lit (.bool false)], args := [d] }
  | _ => none }
def FnPlatesWrongFalsely : Prop := fnPlatesRow.holds Try.pinned (OpenSpec.ofChange fnPlatesWrong)

/-- 'laws.FnClashes': WHATEVER THE INPUT: true; the input reads as it did. -/
def fnClashesSpec : ChangeSpec := { name := "fnClashes", fn := fun _ => fun
  | [d] => { results := [.lit (.bool true)], args := [d] }
  | _ => none }
def fnClashesRow : OpenClaim := { program := "ytincjooilmahfaa", sum := "c0bfc550eb1fa6ae7c58cdb5c5aed52f4087afee8b113c7233d34dd5eaa024de", func := "loop.example/g00921/laws.FnClashes", spec := "fnClashes", unfollowed := true, recurses := true, apart := false }
def FnClashesSaid : Prop := fnClashesRow.holds Try.pinned (OpenSpec.ofChange fnClashesSpec)

/-- ITS FALSE NEIGHBOUR: 'it returns false'. Refute it at one input. -/
def fnClashesWrong : ChangeSpec := { name := "fnClashes", fn := fun _ => fun
  | [d] => { results := [.lit (.bool false)], args := [d] }
  | _ => none }
def FnClashesWrongFalsely : Prop := fnClashesRow.holds Try.pinned (OpenSpec.ofChange fnClashesWrong)

/-- 'laws.FnHulls': WHATEVER THE INPUT: true; the input reads as it did. -/
def fnHullsSpec : ChangeSpec := { name := "fnHulls", fn := fun _ => fun
  | [d] => { results := [.lit (.bool true)], args := [d] }
  | _ => none }
def fnHullsRow : OpenClaim := { program := "ytincjooilmahfaa", sum := "c0bfc550eb1fa6ae7c58cdb5c5aed52f4087afee8b113c7233d34dd5eaa024de", func := "loop.example/g00921/laws.FnHulls", spec := "fnHulls", unfollowed := true, recurses := true, apart := false }
def FnHullsSaid : Prop := fnHullsRow.holds Try.pinned (OpenSpec.ofChange fnHullsSpec)

/-- ITS FALSE NEIGHBOUR: 'it returns false'. Refute it at one input. -/
def fnHullsWrong : ChangeSpec := { name := "fnHulls", fn := fun _ => fun
  | [d] => { results := [.lit (.bool false)], args := [d] }
  | _ => none }
def FnHullsWrongFalsely : Prop := fnHullsRow.holds Try.pinned (OpenSpec.ofChange fnHullsWrong)

/- THE SECOND FORM. 'bulk': how many values and letters a reading holds, each counted each time it is reached (what is shared counts as often as it is met; a slice's spare places count too). A statement '..UptoSaid' is the law's where the arguments, and the package variables that the reading takes, are together of bulk at most 1048576: NARROWER than '..Said'. Prove '..Said' where nothing that the law and all that it calls make is longer than what came in: it says more and counts as full. Else prove '..UptoSaid'. A law counts once. -/
mutual
def uptoBulk {H : Type} : DataW H → Nat
  | .lit (.string bytes) => bytes.length + 1
  | .lit _ => 1
  | .nil => 1
  | .ptr d => uptoBulk d + 1
  | .slice elems spare => uptoBulkAll elems + uptoBulkAll spare + 1
  | .agg parts => uptoBulkAll parts + 1
  | .iface _ d => uptoBulk d + 1
  | .map entries => uptoBulkEntries entries + 1
  | .held _ => 1
def uptoBulkAll {H : Type} : List (DataW H) → Nat
  | [] => 0
  | d :: r => uptoBulk d + uptoBulkAll r
def uptoBulkEntries {H : Type} : List (Lit × DataW H) → Nat
  | [] => 0
  | x :: r => uptoBulkEntry x + uptoBulkEntries r
def uptoBulkEntry {H : Type} : Lit × DataW H → Nat
  | (.string bytes, d) => bytes.length + uptoBulk d + 1
  | (_, d) => uptoBulk d + 1
 end
def uptoSmall : (H : Type) → List (DataW H) → Bool := fun _ ds => decide (uptoBulkAll ds ≤ 1048576)
def OpenSpec.upto (s : _root_.Go.ChangeSpec) : _root_.Go.OpenSpec := { _root_.Go.OpenSpec.ofChange s with cond := some uptoSmall }

/-- 'laws.FnExactValidPoint', WHERE WHAT IT READS IS OF BULK AT MOST 1048576: true; the input reads as it did. -/
def fnExactValidPointUptoRow : OpenClaim := { program := "ytincjooilmahfaa", sum := "c0bfc550eb1fa6ae7c58cdb5c5aed52f4087afee8b113c7233d34dd5eaa024de", func := "loop.example/g00921/laws.FnExactValidPoint", spec := "fnExactValidPoint", apart := false, narrowed := true }
def FnExactValidPointUptoSaid : Prop := fnExactValidPointUptoRow.holds Try.pinned (OpenSpec.upto fnExactValidPointSpec)

/-- 'laws.FnExactSquaredDistance', WHERE WHAT IT READS IS OF BULK AT MOST 1048576: true; the input reads as it did. -/
def fnExactSquaredDistanceUptoRow : OpenClaim := { program := "ytincjooilmahfaa", sum := "c0bfc550eb1fa6ae7c58cdb5c5aed52f4087afee8b113c7233d34dd5eaa024de", func := "loop.example/g00921/laws.FnExactSquaredDistance", spec := "fnExactSquaredDistance", apart := false, narrowed := true }
def FnExactSquaredDistanceUptoSaid : Prop := fnExactSquaredDistanceUptoRow.holds Try.pinned (OpenSpec.upto fnExactSquaredDistanceSpec)

/-- 'laws.FnExactCentreDistance', WHERE WHAT IT READS IS OF BULK AT MOST 1048576: true; the input reads as it did. -/
def fnExactCentreDistanceUptoRow : OpenClaim := { program := "ytincjooilmahfaa", sum := "c0bfc550eb1fa6ae7c58cdb5c5aed52f4087afee8b113c7233d34dd5eaa024de", func := "loop.example/g00921/laws.FnExactCentreDistance", spec := "fnExactCentreDistance", apart := false, narrowed := true }
def FnExactCentreDistanceUptoSaid : Prop := fnExactCentreDistanceUptoRow.holds Try.pinned (OpenSpec.upto fnExactCentreDistanceSpec)

/-- 'laws.FnExactSamePlate', WHERE WHAT IT READS IS OF BULK AT MOST 1048576: true; the input reads as it did. -/
def fnExactSamePlateUptoRow : OpenClaim := { program := "ytincjooilmahfaa", sum := "c0bfc550eb1fa6ae7c58cdb5c5aed52f4087afee8b113c7233d34dd5eaa024de", func := "loop.example/g00921/laws.FnExactSamePlate", spec := "fnExactSamePlate", apart := false, narrowed := true }
def FnExactSamePlateUptoSaid : Prop := fnExactSamePlateUptoRow.holds Try.pinned (OpenSpec.upto fnExactSamePlateSpec)

/-- 'laws.FnExactThirdPoint', WHERE WHAT IT READS IS OF BULK AT MOST 1048576: true; the input reads as it did. -/
def fnExactThirdPointUptoRow : OpenClaim := { program := "ytincjooilmahfaa", sum := "c0bfc550eb1fa6ae7c58cdb5c5aed52f4087afee8b113c7233d34dd5eaa024de", func := "loop.example/g00921/laws.FnExactThirdPoint", spec := "fnExactThirdPoint", apart := false, narrowed := true }
def FnExactThirdPointUptoSaid : Prop := fnExactThirdPointUptoRow.holds Try.pinned (OpenSpec.upto fnExactThirdPointSpec)

/-- 'laws.FnExactValidPlate', WHERE WHAT IT READS IS OF BULK AT MOST 1048576: true; the input reads as it did. -/
def fnExactValidPlateUptoRow : OpenClaim := { program := "ytincjooilmahfaa", sum := "c0bfc550eb1fa6ae7c58cdb5c5aed52f4087afee8b113c7233d34dd5eaa024de", func := "loop.example/g00921/laws.FnExactValidPlate", spec := "fnExactValidPlate", unfollowed := true, recurses := true, apart := false, narrowed := true }
def FnExactValidPlateUptoSaid : Prop := fnExactValidPlateUptoRow.holds Try.pinned (OpenSpec.upto fnExactValidPlateSpec)

/-- 'laws.FnExactClearanceBetween', WHERE WHAT IT READS IS OF BULK AT MOST 1048576: true; the input reads as it did. -/
def fnExactClearanceBetweenUptoRow : OpenClaim := { program := "ytincjooilmahfaa", sum := "c0bfc550eb1fa6ae7c58cdb5c5aed52f4087afee8b113c7233d34dd5eaa024de", func := "loop.example/g00921/laws.FnExactClearanceBetween", spec := "fnExactClearanceBetween", unfollowed := true, recurses := true, apart := false, narrowed := true }
def FnExactClearanceBetweenUptoSaid : Prop := fnExactClearanceBetweenUptoRow.holds Try.pinned (OpenSpec.upto fnExactClearanceBetweenSpec)

/-- 'laws.FnExactSitesOutside', WHERE WHAT IT READS IS OF BULK AT MOST 1048576: true; the input reads as it did. -/
def fnExactSitesOutsideUptoRow : OpenClaim := { program := "ytincjooilmahfaa", sum := "c0bfc550eb1fa6ae7c58cdb5c5aed52f4087afee8b113c7233d34dd5eaa024de", func := "loop.example/g00921/laws.FnExactSitesOutside", spec := "fnExactSitesOutside", unfollowed := true, recurses := true, apart := false, narrowed := true }
def FnExactSitesOutsideUptoSaid : Prop := fnExactSitesOutsideUptoRow.holds Try.pinned (OpenSpec.upto fnExactSitesOutsideSpec)

/-- 'laws.FnExactMirrorPlate', WHERE WHAT IT READS IS OF BULK AT MOST 1048576: true; the input reads as it did. -/
def fnExactMirrorPlateUptoRow : OpenClaim := { program := "ytincjooilmahfaa", sum := "c0bfc550eb1fa6ae7c58cdb5c5aed52f4087afee8b113c7233d34dd5eaa024de", func := "loop.example/g00921/laws.FnExactMirrorPlate", spec := "fnExactMirrorPlate", unfollowed := true, recurses := true, apart := false, narrowed := true }
def FnExactMirrorPlateUptoSaid : Prop := fnExactMirrorPlateUptoRow.holds Try.pinned (OpenSpec.upto fnExactMirrorPlateSpec)

/-- 'laws.FnExactTurnPlate', WHERE WHAT IT READS IS OF BULK AT MOST 1048576: true; the input reads as it did. -/
def fnExactTurnPlateUptoRow : OpenClaim := { program := "ytincjooilmahfaa", sum := "c0bfc550eb1fa6ae7c58cdb5c5aed52f4087afee8b113c7233d34dd5eaa024de", func := "loop.example/g00921/laws.FnExactTurnPlate", spec := "fnExactTurnPlate", unfollowed := true, recurses := true, apart := false, narrowed := true }
def FnExactTurnPlateUptoSaid : Prop := fnExactTurnPlateUptoRow.holds Try.pinned (OpenSpec.upto fnExactTurnPlateSpec)

/-- 'laws.FnExactHullArea', WHERE WHAT IT READS IS OF BULK AT MOST 1048576: true; the input reads as it did. -/
def fnExactHullAreaUptoRow : OpenClaim := { program := "ytincjooilmahfaa", sum := "c0bfc550eb1fa6ae7c58cdb5c5aed52f4087afee8b113c7233d34dd5eaa024de", func := "loop.example/g00921/laws.FnExactHullArea", spec := "fnExactHullArea", unfollowed := true, recurses := true, apart := false, narrowed := true }
def FnExactHullAreaUptoSaid : Prop := fnExactHullAreaUptoRow.holds Try.pinned (OpenSpec.upto fnExactHullAreaSpec)

/-- 'laws.FnThirdPoints', WHERE WHAT IT READS IS OF BULK AT MOST 1048576: true; the input reads as it did. -/
def fnThirdPointsUptoRow : OpenClaim := { program := "ytincjooilmahfaa", sum := "c0bfc550eb1fa6ae7c58cdb5c5aed52f4087afee8b113c7233d34dd5eaa024de", func := "loop.example/g00921/laws.FnThirdPoints", spec := "fnThirdPoints", apart := false, narrowed := true }
def FnThirdPointsUptoSaid : Prop := fnThirdPointsUptoRow.holds Try.pinned (OpenSpec.upto fnThirdPointsSpec)

/-- 'laws.FnPlates', WHERE WHAT IT READS IS OF BULK AT MOST 1048576: true; the input reads as it did. -/
def fnPlatesUptoRow : OpenClaim := { program := "ytincjooilmahfaa", sum := "c0bfc550eb1fa6ae7c58cdb5c5aed52f4087afee8b113c7233d34dd5eaa024de", func := "loop.example/g00921/laws.FnPlates", spec := "fnPlates", unfollowed := true, recurses := true, apart := false, narrowed := true }
def FnPlatesUptoSaid : Prop := fnPlatesUptoRow.holds Try.pinned (OpenSpec.upto fnPlatesSpec)

/-- 'laws.FnClashes', WHERE WHAT IT READS IS OF BULK AT MOST 1048576: true; the input reads as it did. -/
def fnClashesUptoRow : OpenClaim := { program := "ytincjooilmahfaa", sum := "c0bfc550eb1fa6ae7c58cdb5c5aed52f4087afee8b113c7233d34dd5eaa024de", func := "loop.example/g00921/laws.FnClashes", spec := "fnClashes", unfollowed := true, recurses := true, apart := false, narrowed := true }
def FnClashesUptoSaid : Prop := fnClashesUptoRow.holds Try.pinned (OpenSpec.upto fnClashesSpec)

/-- 'laws.FnHulls', WHERE WHAT IT READS IS OF BULK AT MOST 1048576: true; the input reads as it did. -/
def fnHullsUptoRow : OpenClaim := { program := "ytincjooilmahfaa", sum := "c0bfc550eb1fa6ae7c58cdb5c5aed52f4087afee8b113c7233d34dd5eaa024de", func := "loop.example/g00921/laws.FnHulls", spec := "fnHulls", unfollowed := true, recurses := true, apart := false, narrowed := true }
def FnHullsUptoSaid : Prop := fnHullsUptoRow.holds Try.pinned (OpenSpec.upto fnHullsSpec)

end Rows
end Go.Proofs.Ytincjooilmahfaa
