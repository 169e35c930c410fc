/-
  No cell of these rows narrows 'for every input' (looked for: loops, veiled, ifaces, maps, wideKeys, modest, calm, conditions, laid).
  DERIVED. THE GIVEN ROWS OF THIS SEAT. 5 by the template 'for every input the law returns true; each argument reads behind the call as it read before'; 0 by the template 'total and deterministic' (their statements: YtckbhfbcblehmaaTotals.lean).
  GIVEN WITH THE SEED: the statements are not yours to turn. If you find one false, say at which input.
  Laid BY PROGRAM, IN A SANDBOX (cutbox-rows.mjs): the forced cells as the released guide's own fill.sh prints them over the translation 66e8cadf55041946… (all of the seat's roots in one cut). By AI agents, Wed Nov 11 2026. No macro, syntax, notation, axiom, sorry.
-/
import Derived.Test.YtckbhfbcblehmaaChecked
import GoSem.Claim
import GoSem.ClaimJoined
import GoSem.ClaimMapViews
import Derived.JoinedTies
import Derived.KernelRfl
namespace Go.Proofs.Ytckbhfbcblehmaa
/- THE CELL 'sum', in the pinned program and in every row, IS THE sha256 OF THE DUMP (.gsa) THAT YtckbhfbcblehmaaProg.lean LOADS. Nothing in Lean hashes anything: it is a label: what it is worth is what the hold of that sum in a sandbox is worth. -/
noncomputable def Try.pinned : Pinned := { name := "ytckbhfbcblehmaa", sum := "66e8cadf55041946c439ca76946eaac2ffec75719ae51ea72117092b2287ba58", checked := Try.checked }
namespace Rows
def none {H : Type} : Left H := { results := [], args := [] }

/-- 'laws.FnExactHullArea': WHATEVER THE INPUT: true; the input reads as it did. -/
def fnExactHullAreaSpec : ChangeSpec := { name := "fnExactHullArea", fn := fun _ => fun
  | [d] => { results := [.lit (.bool true)], args := [d] }
  | _ => none }
def fnExactHullAreaRow : OpenClaim := { program := "ytckbhfbcblehmaa", sum := "66e8cadf55041946c439ca76946eaac2ffec75719ae51ea72117092b2287ba58", func := "loop.example/g00921/laws.FnExactHullArea", spec := "fnExactHullArea", unfollowed := true, recurses := true, apart := false }
def FnExactHullAreaSaid : Prop := fnExactHullAreaRow.holds Try.pinned (OpenSpec.ofChange fnExactHullAreaSpec)

/-- ITS FALSE NEIGHBOUR: 'it returns false'. Refute it at one input. -/
def fnExactHullAreaWrong : ChangeSpec := { name := "fnExactHullArea", fn := fun _ => fun
  | [d] => { results := [.lit (.bool false)], args := [d] }
  | _ => none }
def FnExactHullAreaWrongFalsely : Prop := fnExactHullAreaRow.holds Try.pinned (OpenSpec.ofChange fnExactHullAreaWrong)

/-- 'laws.FnThirdPoints': WHATEVER THE INPUT: true; the input reads as it did. -/
def fnThirdPointsSpec : ChangeSpec := { name := "fnThirdPoints", fn := fun _ => fun
  | [d] => { results := [.lit (.bool true)], args := [d] }
  | _ => none }
def fnThirdPointsRow : OpenClaim := { program := "ytckbhfbcblehmaa", sum := "66e8cadf55041946c439ca76946eaac2ffec75719ae51ea72117092b2287ba58", func := "loop.example/g00921/laws.FnThirdPoints", spec := "fnThirdPoints", apart := false }
def FnThirdPointsSaid : Prop := fnThirdPointsRow.holds Try.pinned (OpenSpec.ofChange fnThirdPointsSpec)

/-- ITS FALSE NEIGHBOUR: 'it returns false'. Refute it at one input. -/
def fnThirdPointsWrong : ChangeSpec := { name := "fnThirdPoints", fn := fun _ => fun
  | [d] => { results := [.lit (.bool false)], args := [d] }
  | _ => none }
def FnThirdPointsWrongFalsely : Prop := fnThirdPointsRow.holds Try.pinned (OpenSpec.ofChange fnThirdPointsWrong)

/-- 'laws.FnPlates': WHATEVER THE INPUT: true; the input reads as it did. -/
def fnPlatesSpec : ChangeSpec := { name := "fnPlates", fn := fun _ => fun
  | [d] => { results := [.lit (.bool true)], args := [d] }
  | _ => none }
def fnPlatesRow : OpenClaim := { program := "ytckbhfbcblehmaa", sum := "66e8cadf55041946c439ca76946eaac2ffec75719ae51ea72117092b2287ba58", func := "loop.example/g00921/laws.FnPlates", spec := "fnPlates", unfollowed := true, recurses := true, apart := false }
def FnPlatesSaid : Prop := fnPlatesRow.holds Try.pinned (OpenSpec.ofChange fnPlatesSpec)

/-- ITS FALSE NEIGHBOUR: 'it returns false'. Refute it at one input. -/
def fnPlatesWrong : ChangeSpec := { name := "fnPlates", fn := fun _ => fun
  | [d] => { results := [.lit (.bool false)], args := [d] }
  | _ => none }
def FnPlatesWrongFalsely : Prop := fnPlatesRow.holds Try.pinned (OpenSpec.ofChange fnPlatesWrong)

/-- 'laws.FnClashes': WHATEVER THE INPUT: true; the input reads as it did. -/
def fnClashesSpec : ChangeSpec := { name := "fnClashes", fn := fun _ => fun
  | [d] => { results := [.lit (.bool true)], args := [d] }
  | _ => none }
def fnClashesRow : OpenClaim := { program := "ytckbhfbcblehmaa", sum := "66e8cadf55041946c439ca76946eaac2ffec75719ae51ea72117092b2287ba58", func := "loop.example/g00921/laws.FnClashes", spec := "fnClashes", unfollowed := true, recurses := true, apart := false }
def FnClashesSaid : Prop := fnClashesRow.holds Try.pinned (OpenSpec.ofChange fnClashesSpec)

/-- ITS FALSE NEIGHBOUR: 'it returns false'. Refute it at one input. -/
def fnClashesWrong : ChangeSpec := { name := "fnClashes", fn := fun _ => fun
  | [d] => { results := [.lit (.bool false)], args := [d] }
  | _ => none }
def FnClashesWrongFalsely : Prop := fnClashesRow.holds Try.pinned (OpenSpec.ofChange fnClashesWrong)

/-- 'laws.FnHulls': WHATEVER THE INPUT: true; the input reads as it did. -/
def fnHullsSpec : ChangeSpec := { name := "fnHulls", fn := fun _ => fun
  | [d] => { results := [.lit (.bool true)], args := [d] }
  | _ => none }
def fnHullsRow : OpenClaim := { program := "ytckbhfbcblehmaa", sum := "66e8cadf55041946c439ca76946eaac2ffec75719ae51ea72117092b2287ba58", func := "loop.example/g00921/laws.FnHulls", spec := "fnHulls", unfollowed := true, recurses := true, apart := false }
def FnHullsSaid : Prop := fnHullsRow.holds Try.pinned (OpenSpec.ofChange fnHullsSpec)

/-- ITS FALSE NEIGHBOUR: 'it returns false'. Refute it at one input. -/
def fnHullsWrong : ChangeSpec := { name := "fnHulls", fn := fun _ => fun
  | [d] => { results := [.lit (.bool false)], args := [d] }
  | _ => none }
def FnHullsWrongFalsely : Prop := fnHullsRow.holds Try.pinned (OpenSpec.ofChange fnHullsWrong)

/- THE SECOND FORM. 'bulk': how many values and letters a reading holds, each counted each time it is reached (what is shared counts as often as it is met; a slice's spare places count too). A statement '..UptoSaid' is the law's where the arguments, and the package variables that the reading takes, are together of bulk at most 1048576: NARROWER than '..Said'. Prove '..Said' where nothing that the law and all that it calls make is longer than what came in: it says more and counts as full. Else prove '..UptoSaid'. A law counts once. -/
mutual
def uptoBulk {H : Type} : DataW H → Nat
  | .lit (.string bytes) => bytes.length + 1
  | .lit _ => 1
  | .nil => 1
  | .ptr d => uptoBulk d + 1
  | .slice elems spare => uptoBulkAll elems + uptoBulkAll spare + 1
  | .agg parts => uptoBulkAll parts + 1
  | .iface _ d => uptoBulk d + 1
  | .map entries => uptoBulkEntries entries + 1
  | .held _ => 1
def uptoBulkAll {H : Type} : List (DataW H) → Nat
  | [] => 0
  | d :: r => uptoBulk d + uptoBulkAll r
def uptoBulkEntries {H : Type} : List (Lit × DataW H) → Nat
  | [] => 0
  | x :: r => uptoBulkEntry x + uptoBulkEntries r
def uptoBulkEntry {H : Type} : Lit × DataW H → Nat
  | (.string bytes, d) => bytes.length + uptoBulk d + 1
  | (_, d) => uptoBulk d + 1
 end
def uptoSmall : (H : Type) → List (DataW H) → Bool := fun _ ds => decide (uptoBulkAll ds ≤ 1048576)
def OpenSpec.upto (s : _root_.Go.ChangeSpec) : _root_.Go.OpenSpec := { _root_.Go.OpenSpec.ofChange s with cond := some uptoSmall }

/-- 'laws.FnExactHullArea', WHERE WHAT IT READS IS OF BULK AT MOST 1048576: true; the input reads as it did. -/
def fnExactHullAreaUptoRow : OpenClaim := { program := "ytckbhfbcblehmaa", sum := "66e8cadf55041946c439ca76946eaac2ffec75719ae51ea72117092b2287ba58", func := "loop.example/g00921/laws.FnExactHullArea", spec := "fnExactHullArea", unfollowed := true, recurses := true, apart := false, narrowed := true }
def FnExactHullAreaUptoSaid : Prop := fnExactHullAreaUptoRow.holds Try.pinned (OpenSpec.upto fnExactHullAreaSpec)

/-- 'laws.FnThirdPoints', WHERE WHAT IT READS IS OF BULK AT MOST 1048576: true; the input reads as it did. -/
def fnThirdPointsUptoRow : OpenClaim := { program := "ytckbhfbcblehmaa", sum := "66e8cadf55041946c439ca76946eaac2ffec75719ae51ea72117092b2287ba58", func := "loop.example/g00921/laws.FnThirdPoints", spec := "fnThirdPoints", apart := false, narrowed := true }
def FnThirdPointsUptoSaid : Prop := fnThirdPointsUptoRow.holds Try.pinned (OpenSpec.upto fnThirdPointsSpec)

/-- 'laws.FnPlates', WHERE WHAT IT READS IS OF BULK AT MOST 1048576: true; the input reads as it did. -/
def fnPlatesUptoRow : OpenClaim := { program := "ytckbhfbcblehmaa", sum := "66e8cadf55041946c439ca76946eaac2ffec75719ae51ea72117092b2287ba58", func := "loop.example/g00921/laws.FnPlates", spec := "fnPlates", unfollowed := true, recurses := true, apart := false, narrowed := true }
def FnPlatesUptoSaid : Prop := fnPlatesUptoRow.holds Try.pinned (OpenSpec.upto fnPlatesSpec)

/-- 'laws.FnClashes', WHERE WHAT IT READS IS OF BULK AT MOST 1048576: true; the input reads as it did. -/
def fnClashesUptoRow : OpenClaim := { program := "ytckbhfbcblehmaa", sum := "66e8cadf55041946c439ca76946eaac2ffec75719ae51ea72117092b2287ba58", func := "loop.example/g00921/laws.FnClashes", spec := "fnClashes", unfollowed := true, recurses := true, apart := false, narrowed := true }
def FnClashesUptoSaid : Prop := fnClashesUptoRow.holds Try.pinned (OpenSpec.upto fnClashesSpec)

/-- 'laws.FnHulls', WHERE WHAT IT READS IS OF BULK AT MOST 1048576: true; the input reads as it did. -/
def fnHullsUptoRow : OpenClaim := { program := "ytckbhfbcblehmaa", sum := "66e8cadf55041946c439ca76946eaac2ffec75719ae51ea72117092b2287ba58", func := "loop.example/g00921/laws.FnHulls", spec := "fnHulls", unfollowed := true, recurses := true, apart := false, narrowed := true }
def FnHullsUptoSaid : Prop := fnHullsUptoRow.holds Try.pinned (OpenSpec.upto fnHullsSpec)

end Rows
end Go.Proofs.Ytckbhfbcblehmaa
