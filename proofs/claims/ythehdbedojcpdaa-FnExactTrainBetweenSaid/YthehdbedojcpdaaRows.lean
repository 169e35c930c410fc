/-
  No cell of these rows narrows 'for every input' (looked for: loops, veiled, ifaces, maps, wideKeys, modest, calm, conditions, laid).
  DERIVED. THE GIVEN ROWS OF THIS SEAT. 6 by the template 'for every input the law returns true; each argument reads behind the call as it read before'; 0 by the template 'total and deterministic' (their statements: YthehdbedojcpdaaTotals.lean).
  GIVEN WITH THE SEED: the statements are not yours to turn. If you find one false, say at which input.
  Laid BY PROGRAM, IN A SANDBOX (cutbox-rows.mjs): the forced cells as the released guide's own fill.sh prints them over the translation 96f76ba7ca86ff14… (all of the seat's roots in one cut). By AI agents, Wed Nov 11 2026. No macro, syntax, notation, axiom, sorry.
-/
import Derived.Test.YthehdbedojcpdaaChecked
import GoSem.Claim
import GoSem.ClaimJoined
import GoSem.ClaimMapViews
import Derived.JoinedTies
import Derived.KernelRfl
namespace Go.Proofs.Ythehdbedojcpdaa
/- THE CELL 'sum', in the pinned program and in every row, IS THE sha256 OF THE DUMP (.gsa) THAT YthehdbedojcpdaaProg.lean LOADS. Nothing in Lean hashes anything: it is a label: what it is worth is what the hold of that sum in a sandbox is worth. -/
noncomputable def Try.pinned : Pinned := { name := "ythehdbedojcpdaa", sum := "96f76ba7ca86ff14292bcd6486fbc7b4b90e3c4e46fa691b9abf1b75d1861718", checked := Try.checked }
namespace Rows
def none {H : Type} : Left H := { results := [], args := [] }

/-- 'laws.FnExactPathBetween': WHATEVER THE INPUT: true; the input reads as it did. -/
def fnExactPathBetweenSpec : ChangeSpec := { name := "fnExactPathBetween", fn := fun _ => fun
  | [d1, d2, d3] => { results := [.lit (.bool true)], args := [d1, d2, d3] }
  | _ => none }
def fnExactPathBetweenRow : OpenClaim := { program := "ythehdbedojcpdaa", sum := "96f76ba7ca86ff14292bcd6486fbc7b4b90e3c4e46fa691b9abf1b75d1861718", func := "loop.example/g00921/laws.FnExactPathBetween", spec := "fnExactPathBetween", unfollowed := true, recurses := true, apart := false }
def FnExactPathBetweenSaid : Prop := fnExactPathBetweenRow.holds Try.pinned (OpenSpec.ofChange fnExactPathBetweenSpec)

/-- ITS FALSE NEIGHBOUR: 'it returns false'. Refute it at one input. -/
def fnExactPathBetweenWrong : ChangeSpec := { name := "fnExactPathBetween", fn := fun _ => fun
  | [d1, d2, d3] => { results := [.lit (.bool false)], args := [d1, d2, d3] }
  | _ => none }
def FnExactPathBetweenWrongFalsely : Prop := fnExactPathBetweenRow.holds Try.pinned (OpenSpec.ofChange fnExactPathBetweenWrong)

/-- 'laws.FnExactAddMesh': WHATEVER THE INPUT: true; the input reads as it did. -/
def fnExactAddMeshSpec : ChangeSpec := { name := "fnExactAddMesh", fn := fun _ => fun
  | [d1, d2] => { results := [.lit (.bool true)], args := [d1, d2] }
  | _ => none }
def fnExactAddMeshRow : OpenClaim := { program := "ythehdbedojcpdaa", sum := "96f76ba7ca86ff14292bcd6486fbc7b4b90e3c4e46fa691b9abf1b75d1861718", func := "loop.example/g00921/laws.FnExactAddMesh", spec := "fnExactAddMesh", unfollowed := true, recurses := true, apart := false }
def FnExactAddMeshSaid : Prop := fnExactAddMeshRow.holds Try.pinned (OpenSpec.ofChange fnExactAddMeshSpec)

/-- ITS FALSE NEIGHBOUR: 'it returns false'. Refute it at one input. -/
def fnExactAddMeshWrong : ChangeSpec := { name := "fnExactAddMesh", fn := fun _ => fun
  | [d1, d2] => { results := [.lit (.bool false)], args := [d1, d2] }
  | _ => none }
def FnExactAddMeshWrongFalsely : Prop := fnExactAddMeshRow.holds Try.pinned (OpenSpec.ofChange fnExactAddMeshWrong)

/-- 'laws.FnExactAddArbor': WHATEVER THE INPUT: true; the input reads as it did. -/
def fnExactAddArborSpec : ChangeSpec := { name := "fnExactAddArbor", fn := fun _ => fun
  | [d1, d2] => { results := [.lit (.bool true)], args := [d1, d2] }
  | _ => none }
def fnExactAddArborRow : OpenClaim := { program := "ythehdbedojcpdaa", sum := "96f76ba7ca86ff14292bcd6486fbc7b4b90e3c4e46fa691b9abf1b75d1861718", func := "loop.example/g00921/laws.FnExactAddArbor", spec := "fnExactAddArbor", unfollowed := true, recurses := true, apart := false }
def FnExactAddArborSaid : Prop := fnExactAddArborRow.holds Try.pinned (OpenSpec.ofChange fnExactAddArborSpec)

/-- ITS FALSE NEIGHBOUR: 'it returns false'. Refute it at one input. -/
def fnExactAddArborWrong : ChangeSpec := { name := "fnExactAddArbor", fn := fun _ => fun
  | [d1, d2] => { results := [.lit (.bool false)], args := [d1, d2] }
  | _ => none }
def FnExactAddArborWrongFalsely : Prop := fnExactAddArborRow.holds Try.pinned (OpenSpec.ofChange fnExactAddArborWrong)

/-- 'laws.FnExactTrainBetween': WHATEVER THE INPUT: true; the input reads as it did. -/
def fnExactTrainBetweenSpec : ChangeSpec := { name := "fnExactTrainBetween", fn := fun _ => fun
  | [d1, d2, d3] => { results := [.lit (.bool true)], args := [d1, d2, d3] }
  | _ => none }
def fnExactTrainBetweenRow : OpenClaim := { program := "ythehdbedojcpdaa", sum := "96f76ba7ca86ff14292bcd6486fbc7b4b90e3c4e46fa691b9abf1b75d1861718", func := "loop.example/g00921/laws.FnExactTrainBetween", spec := "fnExactTrainBetween", unfollowed := true, recurses := true, apart := false }
def FnExactTrainBetweenSaid : Prop := fnExactTrainBetweenRow.holds Try.pinned (OpenSpec.ofChange fnExactTrainBetweenSpec)

/-- ITS FALSE NEIGHBOUR: 'it returns false'. Refute it at one input. -/
def fnExactTrainBetweenWrong : ChangeSpec := { name := "fnExactTrainBetween", fn := fun _ => fun
  | [d1, d2, d3] => { results := [.lit (.bool false)], args := [d1, d2, d3] }
  | _ => none }
def FnExactTrainBetweenWrongFalsely : Prop := fnExactTrainBetweenRow.holds Try.pinned (OpenSpec.ofChange fnExactTrainBetweenWrong)

/-- 'laws.FnExactSpeedsOf': WHATEVER THE INPUT: true; the input reads as it did. -/
def fnExactSpeedsOfSpec : ChangeSpec := { name := "fnExactSpeedsOf", fn := fun _ => fun
  | [d1, d2] => { results := [.lit (.bool true)], args := [d1, d2] }
  | _ => none }
def fnExactSpeedsOfRow : OpenClaim := { program := "ythehdbedojcpdaa", sum := "96f76ba7ca86ff14292bcd6486fbc7b4b90e3c4e46fa691b9abf1b75d1861718", func := "loop.example/g00921/laws.FnExactSpeedsOf", spec := "fnExactSpeedsOf", unfollowed := true, recurses := true, apart := false }
def FnExactSpeedsOfSaid : Prop := fnExactSpeedsOfRow.holds Try.pinned (OpenSpec.ofChange fnExactSpeedsOfSpec)

/-- ITS FALSE NEIGHBOUR: 'it returns false'. Refute it at one input. -/
def fnExactSpeedsOfWrong : ChangeSpec := { name := "fnExactSpeedsOf", fn := fun _ => fun
  | [d1, d2] => { results := [.lit (.bool false)], args := [d1, d2] }
  | _ => none }
def FnExactSpeedsOfWrongFalsely : Prop := fnExactSpeedsOfRow.holds Try.pinned (OpenSpec.ofChange fnExactSpeedsOfWrong)

/-- 'laws.FnSpeeds': WHATEVER THE INPUT: true; the input reads as it did. -/
def fnSpeedsSpec : ChangeSpec := { name := "fnSpeeds", fn := fun _ => fun
  | [d1, d2] => { results := [.lit (.bool true)], args := [d1, d2] }
  | _ => none }
def fnSpeedsRow : OpenClaim := { program := "ythehdbedojcpdaa", sum := "96f76ba7ca86ff14292bcd6486fbc7b4b90e3c4e46fa691b9abf1b75d1861718", func := "loop.example/g00921/laws.FnSpeeds", spec := "fnSpeeds", unfollowed := true, recurses := true, apart := false }
def FnSpeedsSaid : Prop := fnSpeedsRow.holds Try.pinned (OpenSpec.ofChange fnSpeedsSpec)

/-- ITS FALSE NEIGHBOUR: 'it returns false'. Refute it at one input. -/
def fnSpeedsWrong : ChangeSpec := { name := "fnSpeeds", fn := fun _ => fun
  | [d1, d2] => { results := [.lit (.bool false)], args := [d1, d2] }
  | _ => none }
def FnSpeedsWrongFalsely : Prop := fnSpeedsRow.holds Try.pinned (OpenSpec.ofChange fnSpeedsWrong)

/- THE SECOND FORM. 'bulk': how many values and letters a reading holds, each counted each time it is reached (what is shared counts as often as it is met; a slice's spare places count too). A statement '..UptoSaid' is the law's where the arguments, and the package variables that the reading takes, are together of bulk at most 1048576: NARROWER than '..Said'. Prove '..Said' where nothing that the law and all that it calls make is longer than what came in: it says more and counts as full. Else prove '..UptoSaid'. A law counts once. -/
mutual
def uptoBulk {H : Type} : DataW H → Nat
  | .lit (.string bytes) => bytes.length + 1
  | .lit _ => 1
  | .nil => 1
  | .ptr d => uptoBulk d + 1
  | .slice elems spare => uptoBulkAll elems + uptoBulkAll spare + 1
  | .agg parts => uptoBulkAll parts + 1
  | .iface _ d => uptoBulk d + 1
  | .map entries => uptoBulkEntries entries + 1
  | .held _ => 1
def uptoBulkAll {H : Type} : List (DataW H) → Nat
  | [] => 0
  | d :: r => uptoBulk d + uptoBulkAll r
def uptoBulkEntries {H : Type} : List (Lit × DataW H) → Nat
  | [] => 0
  | x :: r => uptoBulkEntry x + uptoBulkEntries r
def uptoBulkEntry {H : Type} : Lit × DataW H → Nat
  | (.string bytes, d) => bytes.length + uptoBulk d + 1
  | (_, d) => uptoBulk d + 1
 end
def uptoSmall : (H : Type) → List (DataW H) → Bool := fun _ ds => decide (uptoBulkAll ds ≤ 1048576)
def OpenSpec.upto (s : _root_.Go.ChangeSpec) : _root_.Go.OpenSpec := { _root_.Go.OpenSpec.ofChange s with cond := some uptoSmall }

/-- 'laws.FnExactPathBetween', WHERE WHAT IT READS IS OF BULK AT MOST 1048576: true; the input reads as it did. -/
def fnExactPathBetweenUptoRow : OpenClaim := { program := "ythehdbedojcpdaa", sum := "96f76ba7ca86ff14292bcd6486fbc7b4b90e3c4e46fa691b9abf1b75d1861718", func := "loop.example/g00921/laws.FnExactPathBetween", spec := "fnExactPathBetween", unfollowed := true, recurses := true, apart := false, narrowed := true }
def FnExactPathBetweenUptoSaid : Prop := fnExactPathBetweenUptoRow.holds Try.pinned (OpenSpec.upto fnExactPathBetweenSpec)

/-- 'laws.FnExactAddMesh', WHERE WHAT IT READS IS OF BULK AT MOST 1048576: true; the input reads as it did. -/
def fnExactAddMeshUptoRow : OpenClaim := { program := "ythehdbedojcpdaa", sum := "96f76ba7ca86ff14292bcd6486fbc7b4b90e3c4e46fa691b9abf1b75d1861718", func := "loop.example/g00921/laws.FnExactAddMesh", spec := "fnExactAddMesh", unfollowed := true, recurses := true, apart := false, narrowed := true }
def FnExactAddMeshUptoSaid : Prop := fnExactAddMeshUptoRow.holds Try.pinned (OpenSpec.upto fnExactAddMeshSpec)

/-- 'laws.FnExactAddArbor', WHERE WHAT IT READS IS OF BULK AT MOST 1048576: true; the input reads as it did. -/
def fnExactAddArborUptoRow : OpenClaim := { program := "ythehdbedojcpdaa", sum := "96f76ba7ca86ff14292bcd6486fbc7b4b90e3c4e46fa691b9abf1b75d1861718", func := "loop.example/g00921/laws.FnExactAddArbor", spec := "fnExactAddArbor", unfollowed := true, recurses := true, apart := false, narrowed := true }
def FnExactAddArborUptoSaid : Prop := fnExactAddArborUptoRow.holds Try.pinned (OpenSpec.upto fnExactAddArborSpec)

/-- 'laws.FnExactTrainBetween', WHERE WHAT IT READS IS OF BULK AT MOST 1048576: true; the input reads as it did. -/
def fnExactTrainBetweenUptoRow : OpenClaim := { program := "ythehdbedojcpdaa", sum := "96f76ba7ca86ff14292bcd6486fbc7b4b90e3c4e46fa691b9abf1b75d1861718", func := "loop.example/g00921/laws.FnExactTrainBetween", spec := "fnExactTrainBetween", unfollowed := true, recurses := true, apart := false, narrowed := true }
def FnExactTrainBetweenUptoSaid : Prop := fnExactTrainBetweenUptoRow.holds Try.pinned (OpenSpec.upto fnExactTrainBetweenSpec)

/-- 'laws.FnExactSpeedsOf', WHERE WHAT IT READS IS OF BULK AT MOST 1048576: true; the input reads as it did. -/
def fnExactSpeedsOfUptoRow : OpenClaim := { program := "ythehdbedojcpdaa", sum := "96f76ba7ca86ff14292bcd6486fbc7b4b90e3c4e46fa691b9abf1b75d1861718", func := "loop.example/g00921/laws.FnExactSpeedsOf", spec := "fnExactSpeedsOf", unfollowed := true, recurses := true, apart := false, narrowed := true }
def FnExactSpeedsOfUptoSaid : Prop := fnExactSpeedsOfUptoRow.holds Try.pinned (OpenSpec.upto fnExactSpeedsOfSpec)

/-- 'laws.FnSpeeds', WHERE WHAT IT READS IS OF BULK AT MOST 1048576: true; the input reads as it did. -/
def fnSpeedsUptoRow : OpenClaim := { program := "ythehdbedojcpdaa", sum := "96f76ba7ca86ff14292bcd6486fbc7b4b90e3c4e46fa691b9abf1b75d1861718", func := "loop.example/g00921/laws.FnSpeeds", spec := "fnSpeeds", unfollowed := true, recurses := true, apart := false, narrowed := true }
def FnSpeedsUptoSaid : Prop := fnSpeedsUptoRow.holds Try.pinned (OpenSpec.upto fnSpeedsSpec)

end Rows
end Go.Proofs.Ythehdbedojcpdaa
