/-
  No cell of these rows narrows 'for every input' (looked for: loops, veiled, ifaces, maps, wideKeys, modest, calm, conditions, laid).
  DERIVED. THE GIVEN ROWS OF THIS SEAT. 11 by the template 'for every input the law returns true; each argument reads behind the call as it read before'; 0 by the template 'total and deterministic' (their statements: YtaaieejhbpdmoaaTotals.lean).
  GIVEN WITH THE SEED: the statements are not yours to turn. If you find one false, say at which input.
  Laid BY PROGRAM, IN A SANDBOX (cutbox-rows.mjs): the forced cells as the released guide's own fill.sh prints them over the translation b9c1c90141ae41ce… (all of the seat's roots in one cut). By AI agents, Wed Nov 11 2026. No macro, syntax, notation, axiom, sorry.
-/
import Derived.Test.YtaaieejhbpdmoaaChecked
import GoSem.Claim
import GoSem.ClaimJoined
import GoSem.ClaimMapViews
import Derived.JoinedTies
import Derived.KernelRfl
namespace Go.Proofs.Ytaaieejhbpdmoaa
/- THE CELL 'sum', in the pinned program and in every row, IS THE sha256 OF THE DUMP (.gsa) THAT YtaaieejhbpdmoaaProg.lean LOADS. Nothing in Lean hashes anything: it is a label: what it is worth is what the hold of that sum in a sandbox is worth. -/
noncomputable def Try.pinned : Pinned := { name := "ytaaieejhbpdmoaa", sum := "b9c1c90141ae41ce515bce58a4632fa71f6bae9e4a32feac83d19d454bf9bf9f", checked := Try.checked }
namespace Rows
def none {H : Type} : Left H := { results := [], args := [] }

/-- 'laws.FnExactValidEpi': WHATEVER THE INPUT: true; the input reads as it did. -/
def fnExactValidEpiSpec : ChangeSpec := { name := "fnExactValidEpi", fn := fun _ => fun
  | [d] => { results := [.lit (.bool true)], args := [d] }
  | _ => none }
def fnExactValidEpiRow : OpenClaim := { program := "ytaaieejhbpdmoaa", sum := "b9c1c90141ae41ce515bce58a4632fa71f6bae9e4a32feac83d19d454bf9bf9f", func := "loop.example/g00921/laws.FnExactValidEpi", spec := "fnExactValidEpi", apart := false }
def FnExactValidEpiSaid : Prop := fnExactValidEpiRow.holds Try.pinned (OpenSpec.ofChange fnExactValidEpiSpec)

/-- ITS FALSE NEIGHBOUR: 'it returns false'. Refute it at one input. -/
def fnExactValidEpiWrong : ChangeSpec := { name := "fnExactValidEpi", fn := fun _ => fun
  | [d] => { results := [.lit (.bool false)], args := [d] }
  | _ => none }
def FnExactValidEpiWrongFalsely : Prop := fnExactValidEpiRow.holds Try.pinned (OpenSpec.ofChange fnExactValidEpiWrong)

/-- 'laws.FnExactEpiFaults': WHATEVER THE INPUT: true; the input reads as it did. -/
def fnExactEpiFaultsSpec : ChangeSpec := { name := "fnExactEpiFaults", fn := fun _ => fun
  | [d] => { results := [.lit (.bool true)], args := [d] }
  | _ => none }
def fnExactEpiFaultsRow : OpenClaim := { program := "ytaaieejhbpdmoaa", sum := "b9c1c90141ae41ce515bce58a4632fa71f6bae9e4a32feac83d19d454bf9bf9f", func := "loop.example/g00921/laws.FnExactEpiFaults", spec := "fnExactEpiFaults", apart := false }
def FnExactEpiFaultsSaid : Prop := fnExactEpiFaultsRow.holds Try.pinned (OpenSpec.ofChange fnExactEpiFaultsSpec)

/-- ITS FALSE NEIGHBOUR: 'it returns false'. Refute it at one input. -/
def fnExactEpiFaultsWrong : ChangeSpec := { name := "fnExactEpiFaults", fn := fun _ => fun
  | [d] => { results := [.lit (.bool false)], args := [d] }
  | _ => none }
def FnExactEpiFaultsWrongFalsely : Prop := fnExactEpiFaultsRow.holds Try.pinned (OpenSpec.ofChange fnExactEpiFaultsWrong)

/-- 'laws.FnExactSideOf': WHATEVER THE INPUT: true; the input reads as it did. -/
def fnExactSideOfSpec : ChangeSpec := { name := "fnExactSideOf", fn := fun _ => fun
  | [d1, d2] => { results := [.lit (.bool true)], args := [d1, d2] }
  | _ => none }
def fnExactSideOfRow : OpenClaim := { program := "ytaaieejhbpdmoaa", sum := "b9c1c90141ae41ce515bce58a4632fa71f6bae9e4a32feac83d19d454bf9bf9f", func := "loop.example/g00921/laws.FnExactSideOf", spec := "fnExactSideOf", apart := false }
def FnExactSideOfSaid : Prop := fnExactSideOfRow.holds Try.pinned (OpenSpec.ofChange fnExactSideOfSpec)

/-- ITS FALSE NEIGHBOUR: 'it returns false'. Refute it at one input. -/
def fnExactSideOfWrong : ChangeSpec := { name := "fnExactSideOf", fn := fun _ => fun
  | [d1, d2] => { results := [.lit (.bool false)], args := [d1, d2] }
  | _ => none }
def FnExactSideOfWrongFalsely : Prop := fnExactSideOfRow.holds Try.pinned (OpenSpec.ofChange fnExactSideOfWrong)

/-- 'laws.FnExactCageOf': WHATEVER THE INPUT: true; the input reads as it did. -/
def fnExactCageOfSpec : ChangeSpec := { name := "fnExactCageOf", fn := fun _ => fun
  | [d1, d2] => { results := [.lit (.bool true)], args := [d1, d2] }
  | _ => none }
def fnExactCageOfRow : OpenClaim := { program := "ytaaieejhbpdmoaa", sum := "b9c1c90141ae41ce515bce58a4632fa71f6bae9e4a32feac83d19d454bf9bf9f", func := "loop.example/g00921/laws.FnExactCageOf", spec := "fnExactCageOf", apart := false }
def FnExactCageOfSaid : Prop := fnExactCageOfRow.holds Try.pinned (OpenSpec.ofChange fnExactCageOfSpec)

/-- ITS FALSE NEIGHBOUR: 'it returns false'. Refute it at one input. -/
def fnExactCageOfWrong : ChangeSpec := { name := "fnExactCageOf", fn := fun _ => fun
  | [d1, d2] => { results := [.lit (.bool false)], args := [d1, d2] }
  | _ => none }
def FnExactCageOfWrongFalsely : Prop := fnExactCageOfRow.holds Try.pinned (OpenSpec.ofChange fnExactCageOfWrong)

/-- 'laws.FnExactEpisFor': WHATEVER THE INPUT: true; the input reads as it did. -/
def fnExactEpisForSpec : ChangeSpec := { name := "fnExactEpisFor", fn := fun _ => fun
  | [d1, d2, d3, d4] => { results := [.lit (.bool true)], args := [d1, d2, d3, d4] }
  | _ => none }
def fnExactEpisForRow : OpenClaim := { program := "ytaaieejhbpdmoaa", sum := "b9c1c90141ae41ce515bce58a4632fa71f6bae9e4a32feac83d19d454bf9bf9f", func := "loop.example/g00921/laws.FnExactEpisFor", spec := "fnExactEpisFor", apart := false }
def FnExactEpisForSaid : Prop := fnExactEpisForRow.holds Try.pinned (OpenSpec.ofChange fnExactEpisForSpec)

/-- ITS FALSE NEIGHBOUR: 'it returns false'. Refute it at one input. -/
def fnExactEpisForWrong : ChangeSpec := { name := "fnExactEpisFor", fn := fun _ => fun
  | [d1, d2, d3, d4] => { results := [.lit (.bool false)], args := [d1, d2, d3, d4] }
  | _ => none }
def FnExactEpisForWrongFalsely : Prop := fnExactEpisForRow.holds Try.pinned (OpenSpec.ofChange fnExactEpisForWrong)

/-- 'laws.FnExactCarrierOf': WHATEVER THE INPUT: true; the input reads as it did. -/
def fnExactCarrierOfSpec : ChangeSpec := { name := "fnExactCarrierOf", fn := fun _ => fun
  | [d1, d2, d3] => { results := [.lit (.bool true)], args := [d1, d2, d3] }
  | _ => none }
def fnExactCarrierOfRow : OpenClaim := { program := "ytaaieejhbpdmoaa", sum := "b9c1c90141ae41ce515bce58a4632fa71f6bae9e4a32feac83d19d454bf9bf9f", func := "loop.example/g00921/laws.FnExactCarrierOf", spec := "fnExactCarrierOf", apart := false }
def FnExactCarrierOfSaid : Prop := fnExactCarrierOfRow.holds Try.pinned (OpenSpec.ofChange fnExactCarrierOfSpec)

/-- ITS FALSE NEIGHBOUR: 'it returns false'. Refute it at one input. -/
def fnExactCarrierOfWrong : ChangeSpec := { name := "fnExactCarrierOf", fn := fun _ => fun
  | [d1, d2, d3] => { results := [.lit (.bool false)], args := [d1, d2, d3] }
  | _ => none }
def FnExactCarrierOfWrongFalsely : Prop := fnExactCarrierOfRow.holds Try.pinned (OpenSpec.ofChange fnExactCarrierOfWrong)

/-- 'laws.FnExactPlanetOf': WHATEVER THE INPUT: true; the input reads as it did. -/
def fnExactPlanetOfSpec : ChangeSpec := { name := "fnExactPlanetOf", fn := fun _ => fun
  | [d1, d2, d3] => { results := [.lit (.bool true)], args := [d1, d2, d3] }
  | _ => none }
def fnExactPlanetOfRow : OpenClaim := { program := "ytaaieejhbpdmoaa", sum := "b9c1c90141ae41ce515bce58a4632fa71f6bae9e4a32feac83d19d454bf9bf9f", func := "loop.example/g00921/laws.FnExactPlanetOf", spec := "fnExactPlanetOf", apart := false }
def FnExactPlanetOfSaid : Prop := fnExactPlanetOfRow.holds Try.pinned (OpenSpec.ofChange fnExactPlanetOfSpec)

/-- ITS FALSE NEIGHBOUR: 'it returns false'. Refute it at one input. -/
def fnExactPlanetOfWrong : ChangeSpec := { name := "fnExactPlanetOf", fn := fun _ => fun
  | [d1, d2, d3] => { results := [.lit (.bool false)], args := [d1, d2, d3] }
  | _ => none }
def FnExactPlanetOfWrongFalsely : Prop := fnExactPlanetOfRow.holds Try.pinned (OpenSpec.ofChange fnExactPlanetOfWrong)

/-- 'laws.FnExactRingOf': WHATEVER THE INPUT: true; the input reads as it did. -/
def fnExactRingOfSpec : ChangeSpec := { name := "fnExactRingOf", fn := fun _ => fun
  | [d1, d2, d3] => { results := [.lit (.bool true)], args := [d1, d2, d3] }
  | _ => none }
def fnExactRingOfRow : OpenClaim := { program := "ytaaieejhbpdmoaa", sum := "b9c1c90141ae41ce515bce58a4632fa71f6bae9e4a32feac83d19d454bf9bf9f", func := "loop.example/g00921/laws.FnExactRingOf", spec := "fnExactRingOf", apart := false }
def FnExactRingOfSaid : Prop := fnExactRingOfRow.holds Try.pinned (OpenSpec.ofChange fnExactRingOfSpec)

/-- ITS FALSE NEIGHBOUR: 'it returns false'. Refute it at one input. -/
def fnExactRingOfWrong : ChangeSpec := { name := "fnExactRingOf", fn := fun _ => fun
  | [d1, d2, d3] => { results := [.lit (.bool false)], args := [d1, d2, d3] }
  | _ => none }
def FnExactRingOfWrongFalsely : Prop := fnExactRingOfRow.holds Try.pinned (OpenSpec.ofChange fnExactRingOfWrong)

/-- 'laws.FnExactSunOf': WHATEVER THE INPUT: true; the input reads as it did. -/
def fnExactSunOfSpec : ChangeSpec := { name := "fnExactSunOf", fn := fun _ => fun
  | [d1, d2, d3] => { results := [.lit (.bool true)], args := [d1, d2, d3] }
  | _ => none }
def fnExactSunOfRow : OpenClaim := { program := "ytaaieejhbpdmoaa", sum := "b9c1c90141ae41ce515bce58a4632fa71f6bae9e4a32feac83d19d454bf9bf9f", func := "loop.example/g00921/laws.FnExactSunOf", spec := "fnExactSunOf", apart := false }
def FnExactSunOfSaid : Prop := fnExactSunOfRow.holds Try.pinned (OpenSpec.ofChange fnExactSunOfSpec)

/-- ITS FALSE NEIGHBOUR: 'it returns false'. Refute it at one input. -/
def fnExactSunOfWrong : ChangeSpec := { name := "fnExactSunOf", fn := fun _ => fun
  | [d1, d2, d3] => { results := [.lit (.bool false)], args := [d1, d2, d3] }
  | _ => none }
def FnExactSunOfWrongFalsely : Prop := fnExactSunOfRow.holds Try.pinned (OpenSpec.ofChange fnExactSunOfWrong)

/-- 'laws.FnExactEpiRatio': WHATEVER THE INPUT: true; the input reads as it did. -/
def fnExactEpiRatioSpec : ChangeSpec := { name := "fnExactEpiRatio", fn := fun _ => fun
  | [d1, d2, d3] => { results := [.lit (.bool true)], args := [d1, d2, d3] }
  | _ => none }
def fnExactEpiRatioRow : OpenClaim := { program := "ytaaieejhbpdmoaa", sum := "b9c1c90141ae41ce515bce58a4632fa71f6bae9e4a32feac83d19d454bf9bf9f", func := "loop.example/g00921/laws.FnExactEpiRatio", spec := "fnExactEpiRatio", apart := false }
def FnExactEpiRatioSaid : Prop := fnExactEpiRatioRow.holds Try.pinned (OpenSpec.ofChange fnExactEpiRatioSpec)

/-- ITS FALSE NEIGHBOUR: 'it returns false'. Refute it at one input. -/
def fnExactEpiRatioWrong : ChangeSpec := { name := "fnExactEpiRatio", fn := fun _ => fun
  | [d1, d2, d3] => { results := [.lit (.bool false)], args := [d1, d2, d3] }
  | _ => none }
def FnExactEpiRatioWrongFalsely : Prop := fnExactEpiRatioRow.holds Try.pinned (OpenSpec.ofChange fnExactEpiRatioWrong)

/-- 'laws.FnEpis': WHATEVER THE INPUT: true; the input reads as it did. -/
def fnEpisSpec : ChangeSpec := { name := "fnEpis", fn := fun _ => fun
  | [d] => { results := [.lit (.bool true)], args := [d] }
  | _ => none }
def fnEpisRow : OpenClaim := { program := "ytaaieejhbpdmoaa", sum := "b9c1c90141ae41ce515bce58a4632fa71f6bae9e4a32feac83d19d454bf9bf9f", func := "loop.example/g00921/laws.FnEpis", spec := "fnEpis", apart := false }
def FnEpisSaid : Prop := fnEpisRow.holds Try.pinned (OpenSpec.ofChange fnEpisSpec)

/-- ITS FALSE NEIGHBOUR: 'it returns false'. Refute it at one input. -/
def fnEpisWrong : ChangeSpec := { name := "fnEpis", fn := fun _ => fun
  | [d] => { results := [.lit (.bool false)], args := [d] }
  | _ => none }
def FnEpisWrongFalsely : Prop := fnEpisRow.holds Try.pinned (OpenSpec.ofChange fnEpisWrong)

/- THE SECOND FORM. 'bulk': how many values and letters a reading holds, each counted each time it is reached (what is shared counts as often as it is met; a slice's spare places count too). A statement '..UptoSaid' is the law's where the arguments, and the package variables that the reading takes, are together of bulk at most 1048576: NARROWER than '..Said'. Prove '..Said' where nothing that the law and all that it calls make is longer than what came in: it says more and counts as full. Else prove '..UptoSaid'. A law counts once. -/
mutual
def uptoBulk {H : Type} : DataW H → Nat
  | .lit (.string bytes) => bytes.length + 1
  | .lit _ => 1
  | .nil => 1
  | .ptr d => uptoBulk d + 1
  | .slice elems spare => uptoBulkAll elems + uptoBulkAll spare + 1
  | .agg parts => uptoBulkAll parts + 1
  | .iface _ d => uptoBulk d + 1
  | .map entries => uptoBulkEntries entries + 1
  | .held _ => 1
def uptoBulkAll {H : Type} : List (DataW H) → Nat
  | [] => 0
  | d :: r => uptoBulk d + uptoBulkAll r
def uptoBulkEntries {H : Type} : List (Lit × DataW H) → Nat
  | [] => 0
  | x :: r => uptoBulkEntry x + uptoBulkEntries r
def uptoBulkEntry {H : Type} : Lit × DataW H → Nat
  | (.string bytes, d) => bytes.length + uptoBulk d + 1
  | (_, d) => uptoBulk d + 1
 end
def uptoSmall : (H : Type) → List (DataW H) → Bool := fun _ ds => decide (uptoBulkAll ds ≤ 1048576)
def OpenSpec.upto (s : _root_.Go.ChangeSpec) : _root_.Go.OpenSpec := { _root_.Go.OpenSpec.ofChange s with cond := some uptoSmall }

/-- 'laws.FnExactValidEpi', WHERE WHAT IT READS IS OF BULK AT MOST 1048576: true; the input reads as it did. -/
def fnExactValidEpiUptoRow : OpenClaim := { program := "ytaaieejhbpdmoaa", sum := "b9c1c90141ae41ce515bce58a4632fa71f6bae9e4a32feac83d19d454bf9bf9f", func := "loop.example/g00921/laws.FnExactValidEpi", spec := "fnExactValidEpi", apart := false, narrowed := true }
def FnExactValidEpiUptoSaid : Prop := fnExactValidEpiUptoRow.holds Try.pinned (OpenSpec.upto fnExactValidEpiSpec)

/-- 'laws.FnExactEpiFaults', WHERE WHAT IT READS IS OF BULK AT MOST 1048576: true; the input reads as it did. -/
def fnExactEpiFaultsUptoRow : OpenClaim := { program := "ytaaieejhbpdmoaa", sum := "b9c1c90141ae41ce515bce58a4632fa71f6bae9e4a32feac83d19d454bf9bf9f", func := "loop.example/g00921/laws.FnExactEpiFaults", spec := "fnExactEpiFaults", apart := false, narrowed := true }
def FnExactEpiFaultsUptoSaid : Prop := fnExactEpiFaultsUptoRow.holds Try.pinned (OpenSpec.upto fnExactEpiFaultsSpec)

/-- 'laws.FnExactSideOf', WHERE WHAT IT READS IS OF BULK AT MOST 1048576: true; the input reads as it did. -/
def fnExactSideOfUptoRow : OpenClaim := { program := "ytaaieejhbpdmoaa", sum := "b9c1c90141ae41ce515bce58a4632fa71f6bae9e4a32feac83d19d454bf9bf9f", func := "loop.example/g00921/laws.FnExactSideOf", spec := "fnExactSideOf", apart := false, narrowed := true }
def FnExactSideOfUptoSaid : Prop := fnExactSideOfUptoRow.holds Try.pinned (OpenSpec.upto fnExactSideOfSpec)

/-- 'laws.FnExactCageOf', WHERE WHAT IT READS IS OF BULK AT MOST 1048576: true; the input reads as it did. -/
def fnExactCageOfUptoRow : OpenClaim := { program := "ytaaieejhbpdmoaa", sum := "b9c1c90141ae41ce515bce58a4632fa71f6bae9e4a32feac83d19d454bf9bf9f", func := "loop.example/g00921/laws.FnExactCageOf", spec := "fnExactCageOf", apart := false, narrowed := true }
def FnExactCageOfUptoSaid : Prop := fnExactCageOfUptoRow.holds Try.pinned (OpenSpec.upto fnExactCageOfSpec)

/-- 'laws.FnExactEpisFor', WHERE WHAT IT READS IS OF BULK AT MOST 1048576: true; the input reads as it did. -/
def fnExactEpisForUptoRow : OpenClaim := { program := "ytaaieejhbpdmoaa", sum := "b9c1c90141ae41ce515bce58a4632fa71f6bae9e4a32feac83d19d454bf9bf9f", func := "loop.example/g00921/laws.FnExactEpisFor", spec := "fnExactEpisFor", apart := false, narrowed := true }
def FnExactEpisForUptoSaid : Prop := fnExactEpisForUptoRow.holds Try.pinned (OpenSpec.upto fnExactEpisForSpec)

/-- 'laws.FnExactCarrierOf', WHERE WHAT IT READS IS OF BULK AT MOST 1048576: true; the input reads as it did. -/
def fnExactCarrierOfUptoRow : OpenClaim := { program := "ytaaieejhbpdmoaa", sum := "b9c1c90141ae41ce515bce58a4632fa71f6bae9e4a32feac83d19d454bf9bf9f", func := "loop.example/g00921/laws.FnExactCarrierOf", spec := "fnExactCarrierOf", apart := false, narrowed := true }
def FnExactCarrierOfUptoSaid : Prop := fnExactCarrierOfUptoRow.holds Try.pinned (OpenSpec.upto fnExactCarrierOfSpec)

/-- 'laws.FnExactPlanetOf', WHERE WHAT IT READS IS OF BULK AT MOST 1048576: true; the input reads as it did. -/
def fnExactPlanetOfUptoRow : OpenClaim := { program := "ytaaieejhbpdmoaa", sum := "b9c1c90141ae41ce515bce58a4632fa71f6bae9e4a32feac83d19d454bf9bf9f", func := "loop.example/g00921/laws.FnExactPlanetOf", spec := "fnExactPlanetOf", apart := false, narrowed := true }
def FnExactPlanetOfUptoSaid : Prop := fnExactPlanetOfUptoRow.holds Try.pinned (OpenSpec.upto fnExactPlanetOfSpec)

/-- 'laws.FnExactRingOf', WHERE WHAT IT READS IS OF BULK AT MOST 1048576: true; the input reads as it did. -/
def fnExactRingOfUptoRow : OpenClaim := { program := "ytaaieejhbpdmoaa", sum := "b9c1c90141ae41ce515bce58a4632fa71f6bae9e4a32feac83d19d454bf9bf9f", func := "loop.example/g00921/laws.FnExactRingOf", spec := "fnExactRingOf", apart := false, narrowed := true }
def FnExactRingOfUptoSaid : Prop := fnExactRingOfUptoRow.holds Try.pinned (OpenSpec.upto fnExactRingOfSpec)

/-- 'laws.FnExactSunOf', WHERE WHAT IT READS IS OF BULK AT MOST 1048576: true; the input reads as it did. -/
def fnExactSunOfUptoRow : OpenClaim := { program := "ytaaieejhbpdmoaa", sum := "b9c1c90141ae41ce515bce58a4632fa71f6bae9e4a32feac83d19d454bf9bf9f", func := "loop.example/g00921/laws.FnExactSunOf", spec := "fnExactSunOf", apart := false, narrowed := true }
def FnExactSunOfUptoSaid : Prop := fnExactSunOfUptoRow.holds Try.pinned (OpenSpec.upto fnExactSunOfSpec)

/-- 'laws.FnExactEpiRatio', WHERE WHAT IT READS IS OF BULK AT MOST 1048576: true; the input reads as it did. -/
def fnExactEpiRatioUptoRow : OpenClaim := { program := "ytaaieejhbpdmoaa", sum := "b9c1c90141ae41ce515bce58a4632fa71f6bae9e4a32feac83d19d454bf9bf9f", func := "loop.example/g00921/laws.FnExactEpiRatio", spec := "fnExactEpiRatio", apart := false, narrowed := true }
def FnExactEpiRatioUptoSaid : Prop := fnExactEpiRatioUptoRow.holds Try.pinned (OpenSpec.upto fnExactEpiRatioSpec)

/-- 'laws.FnEpis', WHERE WHAT IT READS IS OF BULK AT MOST 1048576: true; the input reads as it did. -/
def fnEpisUptoRow : OpenClaim := { program := "ytaaieejhbpdmoaa", sum := "b9c1c90141ae41ce515bce58a4632fa71f6bae9e4a32feac83d19d454bf9bf9f", func := "loop.example/g00921/laws.FnEpis", spec := "fnEpis", apart := false, narrowed := true }
def FnEpisUptoSaid : Prop := fnEpisUptoRow.holds Try.pinned (OpenSpec.upto fnEpisSpec)

end Rows
end Go.Proofs.Ytaaieejhbpdmoaa
