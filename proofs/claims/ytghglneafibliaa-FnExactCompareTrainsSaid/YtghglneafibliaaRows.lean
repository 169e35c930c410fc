/-
  No cell of these rows narrows 'for every input' (looked for: loops, veiled, ifaces, maps, wideKeys, modest, calm, conditions, laid).
  DERIVED. THE GIVEN ROWS OF THIS SEAT. 8 by the template 'for every input the law returns true; each argument reads behind the call as it read before'; 0 by the template 'total and deterministic' (their statements: YtghglneafibliaaTotals.lean).
  GIVEN WITH THE SEED: the statements are not yours to turn. If you find one false, say at which input.
  Laid BY PROGRAM, IN A SANDBOX (cutbox-rows.mjs): the forced cells as the released guide's own fill.sh prints them over the translation f75838e6918af57c… (all of the seat's roots in one cut). By AI agents, Wed Nov 11 2026. No macro, syntax, notation, axiom, sorry.
-/
import Derived.Test.YtghglneafibliaaChecked
import GoSem.Claim
import GoSem.ClaimJoined
import GoSem.ClaimMapViews
import Derived.JoinedTies
import Derived.KernelRfl
namespace Go.Proofs.Ytghglneafibliaa
/- THE CELL 'sum', in the pinned program and in every row, IS THE sha256 OF THE DUMP (.gsa) THAT YtghglneafibliaaProg.lean LOADS. Nothing in Lean hashes anything: it is a label: what it is worth is what the hold of that sum in a sandbox is worth. -/
noncomputable def Try.pinned : Pinned := { name := "ytghglneafibliaa", sum := "f75838e6918af57cd2506221c33ff3965f9ac6b7e9eb6db813fbce3b3a927702", checked := Try.checked }
namespace Rows
def none {H : Type} : Left H := { results := [], args := [] }

/-- 'laws.FnExactValidLimits': WHATEVER THE INPUT: true; the input reads as it did. -/
def fnExactValidLimitsSpec : ChangeSpec := { name := "fnExactValidLimits", fn := fun _ => fun
  | [d] => { results := [.lit (.bool true)], args := [d] }
  | _ => none }
def fnExactValidLimitsRow : OpenClaim := { program := "ytghglneafibliaa", sum := "f75838e6918af57cd2506221c33ff3965f9ac6b7e9eb6db813fbce3b3a927702", func := "loop.example/g00921/laws.FnExactValidLimits", spec := "fnExactValidLimits", apart := false }
def FnExactValidLimitsSaid : Prop := fnExactValidLimitsRow.holds Try.pinned (OpenSpec.ofChange fnExactValidLimitsSpec)

/-- ITS FALSE NEIGHBOUR: 'it returns false'. Refute it at one input. -/
def fnExactValidLimitsWrong : ChangeSpec := { name := "fnExactValidLimits", fn := fun _ => fun
  | [d] => { results := [.lit (.bool false)], args := [d] }
  | _ => none }
def FnExactValidLimitsWrongFalsely : Prop := fnExactValidLimitsRow.holds Try.pinned (OpenSpec.ofChange fnExactValidLimitsWrong)

/-- 'laws.FnExactWithinLimits': WHATEVER THE INPUT: true; the input reads as it did. -/
def fnExactWithinLimitsSpec : ChangeSpec := { name := "fnExactWithinLimits", fn := fun _ => fun
  | [d1, d2] => { results := [.lit (.bool true)], args := [d1, d2] }
  | _ => none }
def fnExactWithinLimitsRow : OpenClaim := { program := "ytghglneafibliaa", sum := "f75838e6918af57cd2506221c33ff3965f9ac6b7e9eb6db813fbce3b3a927702", func := "loop.example/g00921/laws.FnExactWithinLimits", spec := "fnExactWithinLimits", apart := false }
def FnExactWithinLimitsSaid : Prop := fnExactWithinLimitsRow.holds Try.pinned (OpenSpec.ofChange fnExactWithinLimitsSpec)

/-- ITS FALSE NEIGHBOUR: 'it returns false'. Refute it at one input. -/
def fnExactWithinLimitsWrong : ChangeSpec := { name := "fnExactWithinLimits", fn := fun _ => fun
  | [d1, d2] => { results := [.lit (.bool false)], args := [d1, d2] }
  | _ => none }
def FnExactWithinLimitsWrongFalsely : Prop := fnExactWithinLimitsRow.holds Try.pinned (OpenSpec.ofChange fnExactWithinLimitsWrong)

/-- 'laws.FnExactCompareTrains': WHATEVER THE INPUT: true; the input reads as it did. -/
def fnExactCompareTrainsSpec : ChangeSpec := { name := "fnExactCompareTrains", fn := fun _ => fun
  | [d1, d2] => { results := [.lit (.bool true)], args := [d1, d2] }
  | _ => none }
def fnExactCompareTrainsRow : OpenClaim := { program := "ytghglneafibliaa", sum := "f75838e6918af57cd2506221c33ff3965f9ac6b7e9eb6db813fbce3b3a927702", func := "loop.example/g00921/laws.FnExactCompareTrains", spec := "fnExactCompareTrains", unfollowed := true, recurses := true, apart := false }
def FnExactCompareTrainsSaid : Prop := fnExactCompareTrainsRow.holds Try.pinned (OpenSpec.ofChange fnExactCompareTrainsSpec)

/-- ITS FALSE NEIGHBOUR: 'it returns false'. Refute it at one input. -/
def fnExactCompareTrainsWrong : ChangeSpec := { name := "fnExactCompareTrains", fn := fun _ => fun
  | [d1, d2] => { results := [.lit (.bool false)], args := [d1, d2] }
  | _ => none }
def FnExactCompareTrainsWrongFalsely : Prop := fnExactCompareTrainsRow.holds Try.pinned (OpenSpec.ofChange fnExactCompareTrainsWrong)

/-- 'laws.FnExactErrorOf': WHATEVER THE INPUT: true; the input reads as it did. -/
def fnExactErrorOfSpec : ChangeSpec := { name := "fnExactErrorOf", fn := fun _ => fun
  | [d1, d2] => { results := [.lit (.bool true)], args := [d1, d2] }
  | _ => none }
def fnExactErrorOfRow : OpenClaim := { program := "ytghglneafibliaa", sum := "f75838e6918af57cd2506221c33ff3965f9ac6b7e9eb6db813fbce3b3a927702", func := "loop.example/g00921/laws.FnExactErrorOf", spec := "fnExactErrorOf", apart := false }
def FnExactErrorOfSaid : Prop := fnExactErrorOfRow.holds Try.pinned (OpenSpec.ofChange fnExactErrorOfSpec)

/-- ITS FALSE NEIGHBOUR: 'it returns false'. Refute it at one input. -/
def fnExactErrorOfWrong : ChangeSpec := { name := "fnExactErrorOf", fn := fun _ => fun
  | [d1, d2] => { results := [.lit (.bool false)], args := [d1, d2] }
  | _ => none }
def FnExactErrorOfWrongFalsely : Prop := fnExactErrorOfRow.holds Try.pinned (OpenSpec.ofChange fnExactErrorOfWrong)

/-- 'laws.FnExactDriftOf': WHATEVER THE INPUT: true; the input reads as it did. -/
def fnExactDriftOfSpec : ChangeSpec := { name := "fnExactDriftOf", fn := fun _ => fun
  | [d1, d2, d3] => { results := [.lit (.bool true)], args := [d1, d2, d3] }
  | _ => none }
def fnExactDriftOfRow : OpenClaim := { program := "ytghglneafibliaa", sum := "f75838e6918af57cd2506221c33ff3965f9ac6b7e9eb6db813fbce3b3a927702", func := "loop.example/g00921/laws.FnExactDriftOf", spec := "fnExactDriftOf", apart := false }
def FnExactDriftOfSaid : Prop := fnExactDriftOfRow.holds Try.pinned (OpenSpec.ofChange fnExactDriftOfSpec)

/-- ITS FALSE NEIGHBOUR: 'it returns false'. Refute it at one input. -/
def fnExactDriftOfWrong : ChangeSpec := { name := "fnExactDriftOf", fn := fun _ => fun
  | [d1, d2, d3] => { results := [.lit (.bool false)], args := [d1, d2, d3] }
  | _ => none }
def FnExactDriftOfWrongFalsely : Prop := fnExactDriftOfRow.holds Try.pinned (OpenSpec.ofChange fnExactDriftOfWrong)

/-- 'laws.FnExactBestTrain': WHATEVER THE INPUT: true; the input reads as it did. -/
def fnExactBestTrainSpec : ChangeSpec := { name := "fnExactBestTrain", fn := fun _ => fun
  | [d1, d2] => { results := [.lit (.bool true)], args := [d1, d2] }
  | _ => none }
def fnExactBestTrainRow : OpenClaim := { program := "ytghglneafibliaa", sum := "f75838e6918af57cd2506221c33ff3965f9ac6b7e9eb6db813fbce3b3a927702", func := "loop.example/g00921/laws.FnExactBestTrain", spec := "fnExactBestTrain", unfollowed := true, recurses := true, apart := false }
def FnExactBestTrainSaid : Prop := fnExactBestTrainRow.holds Try.pinned (OpenSpec.ofChange fnExactBestTrainSpec)

/-- ITS FALSE NEIGHBOUR: 'it returns false'. Refute it at one input. -/
def fnExactBestTrainWrong : ChangeSpec := { name := "fnExactBestTrain", fn := fun _ => fun
  | [d1, d2] => { results := [.lit (.bool false)], args := [d1, d2] }
  | _ => none }
def FnExactBestTrainWrongFalsely : Prop := fnExactBestTrainRow.holds Try.pinned (OpenSpec.ofChange fnExactBestTrainWrong)

/-- 'laws.FnExactExactTrains': WHATEVER THE INPUT: true; the input reads as it did. -/
def fnExactExactTrainsSpec : ChangeSpec := { name := "fnExactExactTrains", fn := fun _ => fun
  | [d1, d2] => { results := [.lit (.bool true)], args := [d1, d2] }
  | _ => none }
def fnExactExactTrainsRow : OpenClaim := { program := "ytghglneafibliaa", sum := "f75838e6918af57cd2506221c33ff3965f9ac6b7e9eb6db813fbce3b3a927702", func := "loop.example/g00921/laws.FnExactExactTrains", spec := "fnExactExactTrains", unfollowed := true, recurses := true, apart := false }
def FnExactExactTrainsSaid : Prop := fnExactExactTrainsRow.holds Try.pinned (OpenSpec.ofChange fnExactExactTrainsSpec)

/-- ITS FALSE NEIGHBOUR: 'it returns false'. Refute it at one input. -/
def fnExactExactTrainsWrong : ChangeSpec := { name := "fnExactExactTrains", fn := fun _ => fun
  | [d1, d2] => { results := [.lit (.bool false)], args := [d1, d2] }
  | _ => none }
def FnExactExactTrainsWrongFalsely : Prop := fnExactExactTrainsRow.holds Try.pinned (OpenSpec.ofChange fnExactExactTrainsWrong)

/-- 'laws.FnBest': WHATEVER THE INPUT: true; the input reads as it did. -/
def fnBestSpec : ChangeSpec := { name := "fnBest", fn := fun _ => fun
  | [d] => { results := [.lit (.bool true)], args := [d] }
  | _ => none }
def fnBestRow : OpenClaim := { program := "ytghglneafibliaa", sum := "f75838e6918af57cd2506221c33ff3965f9ac6b7e9eb6db813fbce3b3a927702", func := "loop.example/g00921/laws.FnBest", spec := "fnBest", unfollowed := true, recurses := true, apart := false }
def FnBestSaid : Prop := fnBestRow.holds Try.pinned (OpenSpec.ofChange fnBestSpec)

/-- ITS FALSE NEIGHBOUR: 'it returns false'. Refute it at one input. -/
def fnBestWrong : ChangeSpec := { name := "fnBest", fn := fun _ => fun
  | [d] => { results := [.lit (.bool false)], args := [d] }
  | _ => none }
def FnBestWrongFalsely : Prop := fnBestRow.holds Try.pinned (OpenSpec.ofChange fnBestWrong)

/- THE SECOND FORM. 'bulk': how many values and letters a reading holds, each counted each time it is reached (what is shared counts as often as it is met; a slice's spare places count too). A statement '..UptoSaid' is the law's where the arguments, and the package variables that the reading takes, are together of bulk at most 1048576: NARROWER than '..Said'. Prove '..Said' where nothing that the law and all that it calls make is longer than what came in: it says more and counts as full. Else prove '..UptoSaid'. A law counts once. -/
mutual
def uptoBulk {H : Type} : DataW H → Nat
  | .lit (.string bytes) => bytes.length + 1
  | .lit _ => 1
  | .nil => 1
  | .ptr d => uptoBulk d + 1
  | .slice elems spare => uptoBulkAll elems + uptoBulkAll spare + 1
  | .agg parts => uptoBulkAll parts + 1
  | .iface _ d => uptoBulk d + 1
  | .map entries => uptoBulkEntries entries + 1
  | .held _ => 1
def uptoBulkAll {H : Type} : List (DataW H) → Nat
  | [] => 0
  | d :: r => uptoBulk d + uptoBulkAll r
def uptoBulkEntries {H : Type} : List (Lit × DataW H) → Nat
  | [] => 0
  | x :: r => uptoBulkEntry x + uptoBulkEntries r
def uptoBulkEntry {H : Type} : Lit × DataW H → Nat
  | (.string bytes, d) => bytes.length + uptoBulk d + 1
  | (_, d) => uptoBulk d + 1
 end
def uptoSmall : (H : Type) → List (DataW H) → Bool := fun _ ds => decide (uptoBulkAll ds ≤ 1048576)
def OpenSpec.upto (s : _root_.Go.ChangeSpec) : _root_.Go.OpenSpec := { _root_.Go.OpenSpec.ofChange s with cond := some uptoSmall }

/-- 'laws.FnExactValidLimits', WHERE WHAT IT READS IS OF BULK AT MOST 1048576: true; the input reads as it did. -/
def fnExactValidLimitsUptoRow : OpenClaim := { program := "ytghglneafibliaa", sum := "f75838e6918af57cd2506221c33ff3965f9ac6b7e9eb6db813fbce3b3a927702", func := "loop.example/g00921/laws.FnExactValidLimits", spec := "fnExactValidLimits", apart := false, narrowed := true }
def FnExactValidLimitsUptoSaid : Prop := fnExactValidLimitsUptoRow.holds Try.pinned (OpenSpec.upto fnExactValidLimitsSpec)

/-- 'laws.FnExactWithinLimits', WHERE WHAT IT READS IS OF BULK AT MOST 1048576: true; the input reads as it did. -/
def fnExactWithinLimitsUptoRow : OpenClaim := { program := "ytghglneafibliaa", sum := "f75838e6918af57cd2506221c33ff3965f9ac6b7e9eb6db813fbce3b3a927702", func := "loop.example/g00921/laws.FnExactWithinLimits", spec := "fnExactWithinLimits", apart := false, narrowed := true }
def FnExactWithinLimitsUptoSaid : Prop := fnExactWithinLimitsUptoRow.holds Try.pinned (OpenSpec.upto fnExactWithinLimitsSpec)

/-- 'laws.FnExactCompareTrains', WHERE WHAT IT READS IS OF BULK AT MOST 1048576: true; the input reads as it did. -/
def fnExactCompareTrainsUptoRow : OpenClaim := { program := "ytghglneafibliaa", sum := "f75838e6918af57cd2506221c33ff3965f9ac6b7e9eb6db813fbce3b3a927702", func := "loop.example/g00921/laws.FnExactCompareTrains", spec := "fnExactCompareTrains", unfollowed := true, recurses := true, apart := false, narrowed := true }
def FnExactCompareTrainsUptoSaid : Prop := fnExactCompareTrainsUptoRow.holds Try.pinned (OpenSpec.upto fnExactCompareTrainsSpec)

/-- 'laws.FnExactErrorOf', WHERE WHAT IT READS IS OF BULK AT MOST 1048576: true; the input reads as it did. -/
def fnExactErrorOfUptoRow : OpenClaim := { program := "ytghglneafibliaa", sum := "f75838e6918af57cd2506221c33ff3965f9ac6b7e9eb6db813fbce3b3a927702", func := "loop.example/g00921/laws.FnExactErrorOf", spec := "fnExactErrorOf", apart := false, narrowed := true }
def FnExactErrorOfUptoSaid : Prop := fnExactErrorOfUptoRow.holds Try.pinned (OpenSpec.upto fnExactErrorOfSpec)

/-- 'laws.FnExactDriftOf', WHERE WHAT IT READS IS OF BULK AT MOST 1048576: true; the input reads as it did. -/
def fnExactDriftOfUptoRow : OpenClaim := { program := "ytghglneafibliaa", sum := "f75838e6918af57cd2506221c33ff3965f9ac6b7e9eb6db813fbce3b3a927702", func := "loop.example/g00921/laws.FnExactDriftOf", spec := "fnExactDriftOf", apart := false, narrowed := true }
def FnExactDriftOfUptoSaid : Prop := fnExactDriftOfUptoRow.holds Try.pinned (OpenSpec.upto fnExactDriftOfSpec)

/-- 'laws.FnExactBestTrain', WHERE WHAT IT READS IS OF BULK AT MOST 1048576: true; the input reads as it did. -/
def fnExactBestTrainUptoRow : OpenClaim := { program := "ytghglneafibliaa", sum := "f75838e6918af57cd2506221c33ff3965f9ac6b7e9eb6db813fbce3b3a927702", func := "loop.example/g00921/laws.FnExactBestTrain", spec := "fnExactBestTrain", unfollowed := true, recurses := true, apart := false, narrowed := true }
def FnExactBestTrainUptoSaid : Prop := fnExactBestTrainUptoRow.holds Try.pinned (OpenSpec.upto fnExactBestTrainSpec)

/-- 'laws.FnExactExactTrains', WHERE WHAT IT READS IS OF BULK AT MOST 1048576: true; the input reads as it did. -/
def fnExactExactTrainsUptoRow : OpenClaim := { program := "ytghglneafibliaa", sum := "f75838e6918af57cd2506221c33ff3965f9ac6b7e9eb6db813fbce3b3a927702", func := "loop.example/g00921/laws.FnExactExactTrains", spec := "fnExactExactTrains", unfollowed := true, recurses := true, apart := false, narrowed := true }
def FnExactExactTrainsUptoSaid : Prop := fnExactExactTrainsUptoRow.holds Try.pinned (OpenSpec.upto fnExactExactTrainsSpec)

/-- 'laws.FnBest', WHERE WHAT IT READS IS OF BULK AT MOST 1048576: true; the input reads as it did. -/
def fnBestUptoRow : OpenClaim := { program := "ytghglneafibliaa", sum := "f75838e6918af57cd2506221c33ff3965f9ac6b7e9eb6db813fbce3b3a927702", func := "loop.example/g00921/laws.FnBest", spec := "fnBest", unfollowed := true, recurses := true, apart := false, narrowed := true }
def FnBestUptoSaid : Prop := fnBestUptoRow.holds Try.pinned (OpenSpec.upto fnBestSpec)

end Rows
end Go.Proofs.Ytghglneafibliaa
