/-
  No cell of these rows narrows 'for every input' (looked for: loops, veiled, ifaces, maps, wideKeys, modest, calm, conditions, laid).
  DERIVED. THE GIVEN ROWS OF THIS SEAT. 10 by the template 'for every input the law returns true; each argument reads behind the call as it read before'; 0 by the template 'total and deterministic' (their statements: YtjjbckdiojleeaaTotals.lean).
  GIVEN WITH THE SEED: the statements are not yours to turn. If you find one false, say at which input.
  Laid BY PROGRAM, IN A SANDBOX (cutbox-rows.mjs): the forced cells as the released guide's own fill.sh prints them over the translation 62aca4cb20f30a17… (all of the seat's roots in one cut). By AI agents, Wed Nov 11 2026. No macro, syntax, notation, axiom, sorry.
-/
import Derived.Test.YtjjbckdiojleeaaChecked
import GoSem.Claim
import GoSem.ClaimJoined
import GoSem.ClaimMapViews
import Derived.JoinedTies
import Derived.KernelRfl
namespace Go.Proofs.Ytjjbckdiojleeaa
/- THE CELL 'sum', in the pinned program and in every row, IS THE sha256 OF THE DUMP (.gsa) THAT YtjjbckdiojleeaaProg.lean LOADS. Nothing in Lean hashes anything: it is a label: what it is worth is what the hold of that sum in a sandbox is worth. -/
noncomputable def Try.pinned : Pinned := { name := "ytjjbckdiojleeaa", sum := "62aca4cb20f30a17ed17495a4b41201dc39d9e3ce437d79ea863e0508b10adba", checked := Try.checked }
namespace Rows
def none {H : Type} : Left H := { results := [], args := [] }

/-- 'coppicelaw12.NodeNames': WHATEVER THE INPUT: true; the input reads as it did. -/
def nodeNamesSpec : ChangeSpec := { name := "nodeNames", fn := fun _ => fun
  | [] => { results := [.lit (.bool true)], args := [] }
  | _ => none }
def nodeNamesRow : OpenClaim := { program := "ytjjbckdiojleeaa", sum := "62aca4cb20f30a17ed17495a4b41201dc39d9e3ce437d79ea863e0508b10adba", func := "coppice/coppicelaw12.NodeNames", spec := "nodeNames", apart := false }
def NodeNamesSaid : Prop := nodeNamesRow.holds Try.pinned (OpenSpec.ofChange nodeNamesSpec)

/-- ITS FALSE NEIGHBOUR: 'it returns false'. Refute it at one input. -/
def nodeNamesWrong : ChangeSpec := { name := "nodeNames", fn := fun _ => fun
  | [] => { results := [.lit (.bool false)], args := [] }
  | _ => none }
def NodeNamesWrongFalsely : Prop := nodeNamesRow.holds Try.pinned (OpenSpec.ofChange nodeNamesWrong)

/-- 'coppicelaw12.NodeFinds': WHATEVER THE INPUT: true; the input reads as it did. -/
def nodeFindsSpec : ChangeSpec := { name := "nodeFinds", fn := fun _ => fun
  | [d1, d2] => { results := [.lit (.bool true)], args := [d1, d2] }
  | _ => none }
def nodeFindsRow : OpenClaim := { program := "ytjjbckdiojleeaa", sum := "62aca4cb20f30a17ed17495a4b41201dc39d9e3ce437d79ea863e0508b10adba", func := "coppice/coppicelaw12.NodeFinds", spec := "nodeFinds", inPlace := ["internal/bytealg.Compare"], apart := false }
def NodeFindsSaid : Prop := nodeFindsRow.holds Try.pinned (OpenSpec.ofChange nodeFindsSpec)

/-- ITS FALSE NEIGHBOUR: 'it returns false'. Refute it at one input. -/
def nodeFindsWrong : ChangeSpec := { name := "nodeFinds", fn := fun _ => fun
  | [d1, d2] => { results := [.lit (.bool false)], args := [d1, d2] }
  | _ => none }
def NodeFindsWrongFalsely : Prop := nodeFindsRow.holds Try.pinned (OpenSpec.ofChange nodeFindsWrong)

/-- 'coppicelaw12.NodeSplits': WHATEVER THE INPUT: true; the input reads as it did. -/
def nodeSplitsSpec : ChangeSpec := { name := "nodeSplits", fn := fun _ => fun
  | [d] => { results := [.lit (.bool true)], args := [d] }
  | _ => none }
def nodeSplitsRow : OpenClaim := { program := "ytjjbckdiojleeaa", sum := "62aca4cb20f30a17ed17495a4b41201dc39d9e3ce437d79ea863e0508b10adba", func := "coppice/coppicelaw12.NodeSplits", spec := "nodeSplits", inPlace := ["internal/bytealg.Compare"], apart := false }
def NodeSplitsSaid : Prop := nodeSplitsRow.holds Try.pinned (OpenSpec.ofChange nodeSplitsSpec)

/-- ITS FALSE NEIGHBOUR: 'it returns false'. Refute it at one input. -/
def nodeSplitsWrong : ChangeSpec := { name := "nodeSplits", fn := fun _ => fun
  | [d] => { results := [.lit (.bool false)], args := [d] }
  | _ => none }
def NodeSplitsWrongFalsely : Prop := nodeSplitsRow.holds Try.pinned (OpenSpec.ofChange nodeSplitsWrong)

/-- 'coppicelaw12.NodeJoins': WHATEVER THE INPUT: true; the input reads as it did. -/
def nodeJoinsSpec : ChangeSpec := { name := "nodeJoins", fn := fun _ => fun
  | [d] => { results := [.lit (.bool true)], args := [d] }
  | _ => none }
def nodeJoinsRow : OpenClaim := { program := "ytjjbckdiojleeaa", sum := "62aca4cb20f30a17ed17495a4b41201dc39d9e3ce437d79ea863e0508b10adba", func := "coppice/coppicelaw12.NodeJoins", spec := "nodeJoins", inPlace := ["internal/bytealg.Compare"], apart := false }
def NodeJoinsSaid : Prop := nodeJoinsRow.holds Try.pinned (OpenSpec.ofChange nodeJoinsSpec)

/-- ITS FALSE NEIGHBOUR: 'it returns false'. Refute it at one input. -/
def nodeJoinsWrong : ChangeSpec := { name := "nodeJoins", fn := fun _ => fun
  | [d] => { results := [.lit (.bool false)], args := [d] }
  | _ => none }
def NodeJoinsWrongFalsely : Prop := nodeJoinsRow.holds Try.pinned (OpenSpec.ofChange nodeJoinsWrong)

/-- 'coppicelaw12.NodeHalves': WHATEVER THE INPUT: true; the input reads as it did. -/
def nodeHalvesSpec : ChangeSpec := { name := "nodeHalves", fn := fun _ => fun
  | [d] => { results := [.lit (.bool true)], args := [d] }
  | _ => none }
def nodeHalvesRow : OpenClaim := { program := "ytjjbckdiojleeaa", sum := "62aca4cb20f30a17ed17495a4b41201dc39d9e3ce437d79ea863e0508b10adba", func := "coppice/coppicelaw12.NodeHalves", spec := "nodeHalves", inPlace := ["internal/bytealg.Compare"], apart := false }
def NodeHalvesSaid : Prop := nodeHalvesRow.holds Try.pinned (OpenSpec.ofChange nodeHalvesSpec)

/-- ITS FALSE NEIGHBOUR: 'it returns false'. Refute it at one input. -/
def nodeHalvesWrong : ChangeSpec := { name := "nodeHalves", fn := fun _ => fun
  | [d] => { results := [.lit (.bool false)], args := [d] }
  | _ => none }
def NodeHalvesWrongFalsely : Prop := nodeHalvesRow.holds Try.pinned (OpenSpec.ofChange nodeHalvesWrong)

/-- 'coppicelaw12.NodeLends': WHATEVER THE INPUT: true; the input reads as it did. -/
def nodeLendsSpec : ChangeSpec := { name := "nodeLends", fn := fun _ => fun
  | [d] => { results := [.lit (.bool true)], args := [d] }
  | _ => none }
def nodeLendsRow : OpenClaim := { program := "ytjjbckdiojleeaa", sum := "62aca4cb20f30a17ed17495a4b41201dc39d9e3ce437d79ea863e0508b10adba", func := "coppice/coppicelaw12.NodeLends", spec := "nodeLends", inPlace := ["internal/bytealg.Compare"], apart := false }
def NodeLendsSaid : Prop := nodeLendsRow.holds Try.pinned (OpenSpec.ofChange nodeLendsSpec)

/-- ITS FALSE NEIGHBOUR: 'it returns false'. Refute it at one input. -/
def nodeLendsWrong : ChangeSpec := { name := "nodeLends", fn := fun _ => fun
  | [d] => { results := [.lit (.bool false)], args := [d] }
  | _ => none }
def NodeLendsWrongFalsely : Prop := nodeLendsRow.holds Try.pinned (OpenSpec.ofChange nodeLendsWrong)

/-- 'coppicelaw12.NodeReturns': WHATEVER THE INPUT: true; the input reads as it did. -/
def nodeReturnsSpec : ChangeSpec := { name := "nodeReturns", fn := fun _ => fun
  | [d] => { results := [.lit (.bool true)], args := [d] }
  | _ => none }
def nodeReturnsRow : OpenClaim := { program := "ytjjbckdiojleeaa", sum := "62aca4cb20f30a17ed17495a4b41201dc39d9e3ce437d79ea863e0508b10adba", func := "coppice/coppicelaw12.NodeReturns", spec := "nodeReturns", inPlace := ["internal/bytealg.Compare"], apart := false }
def NodeReturnsSaid : Prop := nodeReturnsRow.holds Try.pinned (OpenSpec.ofChange nodeReturnsSpec)

/-- ITS FALSE NEIGHBOUR: 'it returns false'. Refute it at one input. -/
def nodeReturnsWrong : ChangeSpec := { name := "nodeReturns", fn := fun _ => fun
  | [d] => { results := [.lit (.bool false)], args := [d] }
  | _ => none }
def NodeReturnsWrongFalsely : Prop := nodeReturnsRow.holds Try.pinned (OpenSpec.ofChange nodeReturnsWrong)

/-- 'coppicelaw12.NodeWays': WHATEVER THE INPUT: true; the input reads as it did. -/
def nodeWaysSpec : ChangeSpec := { name := "nodeWays", fn := fun _ => fun
  | [d1, d2] => { results := [.lit (.bool true)], args := [d1, d2] }
  | _ => none }
def nodeWaysRow : OpenClaim := { program := "ytjjbckdiojleeaa", sum := "62aca4cb20f30a17ed17495a4b41201dc39d9e3ce437d79ea863e0508b10adba", func := "coppice/coppicelaw12.NodeWays", spec := "nodeWays", inPlace := ["internal/bytealg.Compare"], apart := false }
def NodeWaysSaid : Prop := nodeWaysRow.holds Try.pinned (OpenSpec.ofChange nodeWaysSpec)

/-- ITS FALSE NEIGHBOUR: 'it returns false'. Refute it at one input. -/
def nodeWaysWrong : ChangeSpec := { name := "nodeWays", fn := fun _ => fun
  | [d1, d2] => { results := [.lit (.bool false)], args := [d1, d2] }
  | _ => none }
def NodeWaysWrongFalsely : Prop := nodeWaysRow.holds Try.pinned (OpenSpec.ofChange nodeWaysWrong)

/-- 'coppicelaw12.NodePuts': WHATEVER THE INPUT: true; the input reads as it did. -/
def nodePutsSpec : ChangeSpec := { name := "nodePuts", fn := fun _ => fun
  | [d1, d2, d3] => { results := [.lit (.bool true)], args := [d1, d2, d3] }
  | _ => none }
def nodePutsRow : OpenClaim := { program := "ytjjbckdiojleeaa", sum := "62aca4cb20f30a17ed17495a4b41201dc39d9e3ce437d79ea863e0508b10adba", func := "coppice/coppicelaw12.NodePuts", spec := "nodePuts", inPlace := ["internal/bytealg.Compare"], apart := false }
def NodePutsSaid : Prop := nodePutsRow.holds Try.pinned (OpenSpec.ofChange nodePutsSpec)

/-- ITS FALSE NEIGHBOUR: 'it returns false'. Refute it at one input. -/
def nodePutsWrong : ChangeSpec := { name := "nodePuts", fn := fun _ => fun
  | [d1, d2, d3] => { results := [.lit (.bool false)], args := [d1, d2, d3] }
  | _ => none }
def NodePutsWrongFalsely : Prop := nodePutsRow.holds Try.pinned (OpenSpec.ofChange nodePutsWrong)

/-- 'coppicelaw12.NodeFresh': WHATEVER THE INPUT: true; the input reads as it did. -/
def nodeFreshSpec : ChangeSpec := { name := "nodeFresh", fn := fun _ => fun
  | [d1, d2, d3] => { results := [.lit (.bool true)], args := [d1, d2, d3] }
  | _ => none }
def nodeFreshRow : OpenClaim := { program := "ytjjbckdiojleeaa", sum := "62aca4cb20f30a17ed17495a4b41201dc39d9e3ce437d79ea863e0508b10adba", func := "coppice/coppicelaw12.NodeFresh", spec := "nodeFresh", inPlace := ["internal/bytealg.Compare"], apart := false }
def NodeFreshSaid : Prop := nodeFreshRow.holds Try.pinned (OpenSpec.ofChange nodeFreshSpec)

/-- ITS FALSE NEIGHBOUR: 'it returns false'. Refute it at one input. -/
def nodeFreshWrong : ChangeSpec := { name := "nodeFresh", fn := fun _ => fun
  | [d1, d2, d3] => { results := [.lit (.bool false)], args := [d1, d2, d3] }
  | _ => none }
def NodeFreshWrongFalsely : Prop := nodeFreshRow.holds Try.pinned (OpenSpec.ofChange nodeFreshWrong)

/- THE SECOND FORM. 'bulk': how many values and letters a reading holds, each counted each time it is reached (what is shared counts as often as it is met; a slice's spare places count too). A statement '..UptoSaid' is the law's where the arguments, and the package variables that the reading takes, are together of bulk at most 1048576: NARROWER than '..Said'. Prove '..Said' where nothing that the law and all that it calls make is longer than what came in: it says more and counts as full. Else prove '..UptoSaid'. A law counts once. -/
mutual
def uptoBulk {H : Type} : DataW H → Nat
  | .lit (.string bytes) => bytes.length + 1
  | .lit _ => 1
  | .nil => 1
  | .ptr d => uptoBulk d + 1
  | .slice elems spare => uptoBulkAll elems + uptoBulkAll spare + 1
  | .agg parts => uptoBulkAll parts + 1
  | .iface _ d => uptoBulk d + 1
  | .map entries => uptoBulkEntries entries + 1
  | .held _ => 1
def uptoBulkAll {H : Type} : List (DataW H) → Nat
  | [] => 0
  | d :: r => uptoBulk d + uptoBulkAll r
def uptoBulkEntries {H : Type} : List (Lit × DataW H) → Nat
  | [] => 0
  | x :: r => uptoBulkEntry x + uptoBulkEntries r
def uptoBulkEntry {H : Type} : Lit × DataW H → Nat
  | (.string bytes, d) => bytes.length + uptoBulk d + 1
  | (_, d) => uptoBulk d + 1
 end
def uptoSmall : (H : Type) → List (DataW H) → Bool := fun _ ds => decide (uptoBulkAll ds ≤ 1048576)
def OpenSpec.upto (s : _root_.Go.ChangeSpec) : _root_.Go.OpenSpec := { _root_.Go.OpenSpec.ofChange s with cond := some uptoSmall }

/-- 'coppicelaw12.NodeNames', WHERE WHAT IT READS IS OF BULK AT MOST 1048576: true; the input reads as it did. -/
def nodeNamesUptoRow : OpenClaim := { program := "ytjjbckdiojleeaa", sum := "62aca4cb20f30a17ed17495a4b41201dc39d9e3ce437d79ea863e0508b10adba", func := "coppice/coppicelaw12.NodeNames", spec := "nodeNames", apart := false, narrowed := true }
def NodeNamesUptoSaid : Prop := nodeNamesUptoRow.holds Try.pinned (OpenSpec.upto nodeNamesSpec)

/-- 'coppicelaw12.NodeFinds', WHERE WHAT IT READS IS OF BULK AT MOST 1048576: true; the input reads as it did. -/
def nodeFindsUptoRow : OpenClaim := { program := "ytjjbckdiojleeaa", sum := "62aca4cb20f30a17ed17495a4b41201dc39d9e3ce437d79ea863e0508b10adba", func := "coppice/coppicelaw12.NodeFinds", spec := "nodeFinds", inPlace := ["internal/bytealg.Compare"], apart := false, narrowed := true }
def NodeFindsUptoSaid : Prop := nodeFindsUptoRow.holds Try.pinned (OpenSpec.upto nodeFindsSpec)

/-- 'coppicelaw12.NodeSplits', WHERE WHAT IT READS IS OF BULK AT MOST 1048576: true; the input reads as it did. -/
def nodeSplitsUptoRow : OpenClaim := { program := "ytjjbckdiojleeaa", sum := "62aca4cb20f30a17ed17495a4b41201dc39d9e3ce437d79ea863e0508b10adba", func := "coppice/coppicelaw12.NodeSplits", spec := "nodeSplits", inPlace := ["internal/bytealg.Compare"], apart := false, narrowed := true }
def NodeSplitsUptoSaid : Prop := nodeSplitsUptoRow.holds Try.pinned (OpenSpec.upto nodeSplitsSpec)

/-- 'coppicelaw12.NodeJoins', WHERE WHAT IT READS IS OF BULK AT MOST 1048576: true; the input reads as it did. -/
def nodeJoinsUptoRow : OpenClaim := { program := "ytjjbckdiojleeaa", sum := "62aca4cb20f30a17ed17495a4b41201dc39d9e3ce437d79ea863e0508b10adba", func := "coppice/coppicelaw12.NodeJoins", spec := "nodeJoins", inPlace := ["internal/bytealg.Compare"], apart := false, narrowed := true }
def NodeJoinsUptoSaid : Prop := nodeJoinsUptoRow.holds Try.pinned (OpenSpec.upto nodeJoinsSpec)

/-- 'coppicelaw12.NodeHalves', WHERE WHAT IT READS IS OF BULK AT MOST 1048576: true; the input reads as it did. -/
def nodeHalvesUptoRow : OpenClaim := { program := "ytjjbckdiojleeaa", sum := "62aca4cb20f30a17ed17495a4b41201dc39d9e3ce437d79ea863e0508b10adba", func := "coppice/coppicelaw12.NodeHalves", spec := "nodeHalves", inPlace := ["internal/bytealg.Compare"], apart := false, narrowed := true }
def NodeHalvesUptoSaid : Prop := nodeHalvesUptoRow.holds Try.pinned (OpenSpec.upto nodeHalvesSpec)

/-- 'coppicelaw12.NodeLends', WHERE WHAT IT READS IS OF BULK AT MOST 1048576: true; the input reads as it did. -/
def nodeLendsUptoRow : OpenClaim := { program := "ytjjbckdiojleeaa", sum := "62aca4cb20f30a17ed17495a4b41201dc39d9e3ce437d79ea863e0508b10adba", func := "coppice/coppicelaw12.NodeLends", spec := "nodeLends", inPlace := ["internal/bytealg.Compare"], apart := false, narrowed := true }
def NodeLendsUptoSaid : Prop := nodeLendsUptoRow.holds Try.pinned (OpenSpec.upto nodeLendsSpec)

/-- 'coppicelaw12.NodeReturns', WHERE WHAT IT READS IS OF BULK AT MOST 1048576: true; the input reads as it did. -/
def nodeReturnsUptoRow : OpenClaim := { program := "ytjjbckdiojleeaa", sum := "62aca4cb20f30a17ed17495a4b41201dc39d9e3ce437d79ea863e0508b10adba", func := "coppice/coppicelaw12.NodeReturns", spec := "nodeReturns", inPlace := ["internal/bytealg.Compare"], apart := false, narrowed := true }
def NodeReturnsUptoSaid : Prop := nodeReturnsUptoRow.holds Try.pinned (OpenSpec.upto nodeReturnsSpec)

/-- 'coppicelaw12.NodeWays', WHERE WHAT IT READS IS OF BULK AT MOST 1048576: true; the input reads as it did. -/
def nodeWaysUptoRow : OpenClaim := { program := "ytjjbckdiojleeaa", sum := "62aca4cb20f30a17ed17495a4b41201dc39d9e3ce437d79ea863e0508b10adba", func := "coppice/coppicelaw12.NodeWays", spec := "nodeWays", inPlace := ["internal/bytealg.Compare"], apart := false, narrowed := true }
def NodeWaysUptoSaid : Prop := nodeWaysUptoRow.holds Try.pinned (OpenSpec.upto nodeWaysSpec)

/-- 'coppicelaw12.NodePuts', WHERE WHAT IT READS IS OF BULK AT MOST 1048576: true; the input reads as it did. -/
def nodePutsUptoRow : OpenClaim := { program := "ytjjbckdiojleeaa", sum := "62aca4cb20f30a17ed17495a4b41201dc39d9e3ce437d79ea863e0508b10adba", func := "coppice/coppicelaw12.NodePuts", spec := "nodePuts", inPlace := ["internal/bytealg.Compare"], apart := false, narrowed := true }
def NodePutsUptoSaid : Prop := nodePutsUptoRow.holds Try.pinned (OpenSpec.upto nodePutsSpec)

/-- 'coppicelaw12.NodeFresh', WHERE WHAT IT READS IS OF BULK AT MOST 1048576: true; the input reads as it did. -/
def nodeFreshUptoRow : OpenClaim := { program := "ytjjbckdiojleeaa", sum := "62aca4cb20f30a17ed17495a4b41201dc39d9e3ce437d79ea863e0508b10adba", func := "coppice/coppicelaw12.NodeFresh", spec := "nodeFresh", inPlace := ["internal/bytealg.Compare"], apart := false, narrowed := true }
def NodeFreshUptoSaid : Prop := nodeFreshUptoRow.holds Try.pinned (OpenSpec.upto nodeFreshSpec)

end Rows
end Go.Proofs.Ytjjbckdiojleeaa
