/-
  No cell of these rows narrows 'for every input' (looked for: loops, veiled, ifaces, maps, wideKeys, modest, calm, conditions, laid).
  DERIVED. THE GIVEN ROWS OF THIS SEAT. 12 by the template 'for every input the law returns true; each argument reads behind the call as it read before'; 0 by the template 'total and deterministic' (their statements: YtbjfgnkjmfcokaaTotals.lean).
  GIVEN WITH THE SEED: the statements are not yours to turn. If you find one false, say at which input.
  Laid BY PROGRAM, IN A SANDBOX (cutbox-rows.mjs): the forced cells as the released guide's own fill.sh prints them over the translation 23fc12e98f889b96… (all of the seat's roots in one cut). By AI agents, Wed Nov 11 2026. No macro, syntax, notation, axiom, sorry.
-/
import Derived.Test.YtbjfgnkjmfcokaaChecked
import GoSem.Claim
import GoSem.ClaimJoined
import GoSem.ClaimMapViews
import Derived.JoinedTies
import Derived.KernelRfl
namespace Go.Proofs.Ytbjfgnkjmfcokaa
/- THE CELL 'sum', in the pinned program and in every row, IS THE sha256 OF THE DUMP (.gsa) THAT YtbjfgnkjmfcokaaProg.lean LOADS. Nothing in Lean hashes anything: it is a label: what it is worth is what the hold of that sum in a sandbox is worth. -/
noncomputable def Try.pinned : Pinned := { name := "ytbjfgnkjmfcokaa", sum := "23fc12e98f889b96ad51645c72f17e87c5379ecf70320fd600f30ad1973bdcc2", checked := Try.checked }
namespace Rows
def none {H : Type} : Left H := { results := [], args := [] }

/-- 'coppicelaw03.TupleNames': WHATEVER THE INPUT: true; the input reads as it did. -/
def tupleNamesSpec : ChangeSpec := { name := "tupleNames", fn := fun _ => fun
  | [] => { results := [.lit (.bool true)], args := [] }
  | _ => none }
def tupleNamesRow : OpenClaim := { program := "ytbjfgnkjmfcokaa", sum := "23fc12e98f889b96ad51645c72f17e87c5379ecf70320fd600f30ad1973bdcc2", func := "coppice/coppicelaw03.TupleNames", spec := "tupleNames", apart := false }
def TupleNamesSaid : Prop := tupleNamesRow.holds Try.pinned (OpenSpec.ofChange tupleNamesSpec)

/-- ITS FALSE NEIGHBOUR: 'it returns false'. Refute it at one input. -/
def tupleNamesWrong : ChangeSpec := { name := "tupleNames", fn := fun _ => fun
  | [] => { results := [.lit (.bool false)], args := [] }
  | _ => none }
def TupleNamesWrongFalsely : Prop := tupleNamesRow.holds Try.pinned (OpenSpec.ofChange tupleNamesWrong)

/-- 'coppicelaw03.TupleCompares': WHATEVER THE INPUT: true; the input reads as it did. -/
def tupleComparesSpec : ChangeSpec := { name := "tupleCompares", fn := fun _ => fun
  | [d1, d2] => { results := [.lit (.bool true)], args := [d1, d2] }
  | _ => none }
def tupleComparesRow : OpenClaim := { program := "ytbjfgnkjmfcokaa", sum := "23fc12e98f889b96ad51645c72f17e87c5379ecf70320fd600f30ad1973bdcc2", func := "coppice/coppicelaw03.TupleCompares", spec := "tupleCompares", inPlace := ["math.Float64frombits", "math.Float64bits", "internal/bytealg.abigen_runtime_cmpstring"], apart := false }
def TupleComparesSaid : Prop := tupleComparesRow.holds Try.pinned (OpenSpec.ofChange tupleComparesSpec)

/-- ITS FALSE NEIGHBOUR: 'it returns false'. Refute it at one input. -/
def tupleComparesWrong : ChangeSpec := { name := "tupleCompares", fn := fun _ => fun
  | [d1, d2] => { results := [.lit (.bool false)], args := [d1, d2] }
  | _ => none }
def TupleComparesWrongFalsely : Prop := tupleComparesRow.holds Try.pinned (OpenSpec.ofChange tupleComparesWrong)

/-- 'coppicelaw03.TupleBegins': WHATEVER THE INPUT: true; the input reads as it did. -/
def tupleBeginsSpec : ChangeSpec := { name := "tupleBegins", fn := fun _ => fun
  | [d] => { results := [.lit (.bool true)], args := [d] }
  | _ => none }
def tupleBeginsRow : OpenClaim := { program := "ytbjfgnkjmfcokaa", sum := "23fc12e98f889b96ad51645c72f17e87c5379ecf70320fd600f30ad1973bdcc2", func := "coppice/coppicelaw03.TupleBegins", spec := "tupleBegins", inPlace := ["math.Float64frombits", "math.Float64bits"], apart := false }
def TupleBeginsSaid : Prop := tupleBeginsRow.holds Try.pinned (OpenSpec.ofChange tupleBeginsSpec)

/-- ITS FALSE NEIGHBOUR: 'it returns false'. Refute it at one input. -/
def tupleBeginsWrong : ChangeSpec := { name := "tupleBegins", fn := fun _ => fun
  | [d] => { results := [.lit (.bool false)], args := [d] }
  | _ => none }
def TupleBeginsWrongFalsely : Prop := tupleBeginsRow.holds Try.pinned (OpenSpec.ofChange tupleBeginsWrong)

/-- 'coppicelaw03.TupleEncodes': WHATEVER THE INPUT: true; the input reads as it did. -/
def tupleEncodesSpec : ChangeSpec := { name := "tupleEncodes", fn := fun _ => fun
  | [d] => { results := [.lit (.bool true)], args := [d] }
  | _ => none }
def tupleEncodesRow : OpenClaim := { program := "ytbjfgnkjmfcokaa", sum := "23fc12e98f889b96ad51645c72f17e87c5379ecf70320fd600f30ad1973bdcc2", func := "coppice/coppicelaw03.TupleEncodes", spec := "tupleEncodes", inPlace := ["math.Float64frombits", "math.Float64bits"], apart := false }
def TupleEncodesSaid : Prop := tupleEncodesRow.holds Try.pinned (OpenSpec.ofChange tupleEncodesSpec)

/-- ITS FALSE NEIGHBOUR: 'it returns false'. Refute it at one input. -/
def tupleEncodesWrong : ChangeSpec := { name := "tupleEncodes", fn := fun _ => fun
  | [d] => { results := [.lit (.bool false)], args := [d] }
  | _ => none }
def TupleEncodesWrongFalsely : Prop := tupleEncodesRow.holds Try.pinned (OpenSpec.ofChange tupleEncodesWrong)

/-- 'coppicelaw03.TupleDecodes': WHATEVER THE INPUT: true; the input reads as it did. -/
def tupleDecodesSpec : ChangeSpec := { name := "tupleDecodes", fn := fun _ => fun
  | [d] => { results := [.lit (.bool true)], args := [d] }
  | _ => none }
def tupleDecodesRow : OpenClaim := { program := "ytbjfgnkjmfcokaa", sum := "23fc12e98f889b96ad51645c72f17e87c5379ecf70320fd600f30ad1973bdcc2", func := "coppice/coppicelaw03.TupleDecodes", spec := "tupleDecodes", inPlace := ["math.Float64frombits", "math.Float64bits"], apart := false }
def TupleDecodesSaid : Prop := tupleDecodesRow.holds Try.pinned (OpenSpec.ofChange tupleDecodesSpec)

/-- ITS FALSE NEIGHBOUR: 'it returns false'. Refute it at one input. -/
def tupleDecodesWrong : ChangeSpec := { name := "tupleDecodes", fn := fun _ => fun
  | [d] => { results := [.lit (.bool false)], args := [d] }
  | _ => none }
def TupleDecodesWrongFalsely : Prop := tupleDecodesRow.holds Try.pinned (OpenSpec.ofChange tupleDecodesWrong)

/-- 'coppicelaw03.TupleReturns': WHATEVER THE INPUT: true; the input reads as it did. -/
def tupleReturnsSpec : ChangeSpec := { name := "tupleReturns", fn := fun _ => fun
  | [d] => { results := [.lit (.bool true)], args := [d] }
  | _ => none }
def tupleReturnsRow : OpenClaim := { program := "ytbjfgnkjmfcokaa", sum := "23fc12e98f889b96ad51645c72f17e87c5379ecf70320fd600f30ad1973bdcc2", func := "coppice/coppicelaw03.TupleReturns", spec := "tupleReturns", inPlace := ["math.Float64bits", "math.Float64frombits"], apart := false }
def TupleReturnsSaid : Prop := tupleReturnsRow.holds Try.pinned (OpenSpec.ofChange tupleReturnsSpec)

/-- ITS FALSE NEIGHBOUR: 'it returns false'. Refute it at one input. -/
def tupleReturnsWrong : ChangeSpec := { name := "tupleReturns", fn := fun _ => fun
  | [d] => { results := [.lit (.bool false)], args := [d] }
  | _ => none }
def TupleReturnsWrongFalsely : Prop := tupleReturnsRow.holds Try.pinned (OpenSpec.ofChange tupleReturnsWrong)

/-- 'coppicelaw03.TupleOneForm': WHATEVER THE INPUT: true; the input reads as it did. -/
def tupleOneFormSpec : ChangeSpec := { name := "tupleOneForm", fn := fun _ => fun
  | [d] => { results := [.lit (.bool true)], args := [d] }
  | _ => none }
def tupleOneFormRow : OpenClaim := { program := "ytbjfgnkjmfcokaa", sum := "23fc12e98f889b96ad51645c72f17e87c5379ecf70320fd600f30ad1973bdcc2", func := "coppice/coppicelaw03.TupleOneForm", spec := "tupleOneForm", inPlace := ["math.Float64bits", "math.Float64frombits"], apart := false }
def TupleOneFormSaid : Prop := tupleOneFormRow.holds Try.pinned (OpenSpec.ofChange tupleOneFormSpec)

/-- ITS FALSE NEIGHBOUR: 'it returns false'. Refute it at one input. -/
def tupleOneFormWrong : ChangeSpec := { name := "tupleOneForm", fn := fun _ => fun
  | [d] => { results := [.lit (.bool false)], args := [d] }
  | _ => none }
def TupleOneFormWrongFalsely : Prop := tupleOneFormRow.holds Try.pinned (OpenSpec.ofChange tupleOneFormWrong)

/-- 'coppicelaw03.TupleFreshLists': WHATEVER THE INPUT: true; the input reads as it did. -/
def tupleFreshListsSpec : ChangeSpec := { name := "tupleFreshLists", fn := fun _ => fun
  | [d1, d2] => { results := [.lit (.bool true)], args := [d1, d2] }
  | _ => none }
def tupleFreshListsRow : OpenClaim := { program := "ytbjfgnkjmfcokaa", sum := "23fc12e98f889b96ad51645c72f17e87c5379ecf70320fd600f30ad1973bdcc2", func := "coppice/coppicelaw03.TupleFreshLists", spec := "tupleFreshLists", inPlace := ["math.Float64frombits", "math.Float64bits"], apart := false }
def TupleFreshListsSaid : Prop := tupleFreshListsRow.holds Try.pinned (OpenSpec.ofChange tupleFreshListsSpec)

/-- ITS FALSE NEIGHBOUR: 'it returns false'. Refute it at one input. -/
def tupleFreshListsWrong : ChangeSpec := { name := "tupleFreshLists", fn := fun _ => fun
  | [d1, d2] => { results := [.lit (.bool false)], args := [d1, d2] }
  | _ => none }
def TupleFreshListsWrongFalsely : Prop := tupleFreshListsRow.holds Try.pinned (OpenSpec.ofChange tupleFreshListsWrong)

/-- 'coppicelaw03.TupleTells': WHATEVER THE INPUT: true; the input reads as it did. -/
def tupleTellsSpec : ChangeSpec := { name := "tupleTells", fn := fun _ => fun
  | [d] => { results := [.lit (.bool true)], args := [d] }
  | _ => none }
def tupleTellsRow : OpenClaim := { program := "ytbjfgnkjmfcokaa", sum := "23fc12e98f889b96ad51645c72f17e87c5379ecf70320fd600f30ad1973bdcc2", func := "coppice/coppicelaw03.TupleTells", spec := "tupleTells", inPlace := ["math.Float64frombits", "math.Float64bits"], apart := false }
def TupleTellsSaid : Prop := tupleTellsRow.holds Try.pinned (OpenSpec.ofChange tupleTellsSpec)

/-- ITS FALSE NEIGHBOUR: 'it returns false'. Refute it at one input. -/
def tupleTellsWrong : ChangeSpec := { name := "tupleTells", fn := fun _ => fun
  | [d] => { results := [.lit (.bool false)], args := [d] }
  | _ => none }
def TupleTellsWrongFalsely : Prop := tupleTellsRow.holds Try.pinned (OpenSpec.ofChange tupleTellsWrong)

/-- 'coppicelaw03.TupleFresh': WHATEVER THE INPUT: true; the input reads as it did. -/
def tupleFreshSpec : ChangeSpec := { name := "tupleFresh", fn := fun _ => fun
  | [d1, d2] => { results := [.lit (.bool true)], args := [d1, d2] }
  | _ => none }
def tupleFreshRow : OpenClaim := { program := "ytbjfgnkjmfcokaa", sum := "23fc12e98f889b96ad51645c72f17e87c5379ecf70320fd600f30ad1973bdcc2", func := "coppice/coppicelaw03.TupleFresh", spec := "tupleFresh", inPlace := ["math.Float64frombits", "math.Float64bits"], apart := false }
def TupleFreshSaid : Prop := tupleFreshRow.holds Try.pinned (OpenSpec.ofChange tupleFreshSpec)

/-- ITS FALSE NEIGHBOUR: 'it returns false'. Refute it at one input. -/
def tupleFreshWrong : ChangeSpec := { name := "tupleFresh", fn := fun _ => fun
  | [d1, d2] => { results := [.lit (.bool false)], args := [d1, d2] }
  | _ => none }
def TupleFreshWrongFalsely : Prop := tupleFreshRow.holds Try.pinned (OpenSpec.ofChange tupleFreshWrong)

/-- 'coppicelaw03.TupleOrders': WHATEVER THE INPUT: true; the input reads as it did. -/
def tupleOrdersSpec : ChangeSpec := { name := "tupleOrders", fn := fun _ => fun
  | [d1, d2] => { results := [.lit (.bool true)], args := [d1, d2] }
  | _ => none }
def tupleOrdersRow : OpenClaim := { program := "ytbjfgnkjmfcokaa", sum := "23fc12e98f889b96ad51645c72f17e87c5379ecf70320fd600f30ad1973bdcc2", func := "coppice/coppicelaw03.TupleOrders", spec := "tupleOrders", inPlace := ["math.Float64bits", "math.Float64frombits", "internal/bytealg.abigen_runtime_cmpstring"], apart := false }
def TupleOrdersSaid : Prop := tupleOrdersRow.holds Try.pinned (OpenSpec.ofChange tupleOrdersSpec)

/-- ITS FALSE NEIGHBOUR: 'it returns false'. Refute it at one input. -/
def tupleOrdersWrong : ChangeSpec := { name := "tupleOrders", fn := fun _ => fun
  | [d1, d2] => { results := [.lit (.bool false)], args := [d1, d2] }
  | _ => none }
def TupleOrdersWrongFalsely : Prop := tupleOrdersRow.holds Try.pinned (OpenSpec.ofChange tupleOrdersWrong)

/-- 'coppicelaw03.TupleBeginnings': WHATEVER THE INPUT: true; the input reads as it did. -/
def tupleBeginningsSpec : ChangeSpec := { name := "tupleBeginnings", fn := fun _ => fun
  | [d1, d2] => { results := [.lit (.bool true)], args := [d1, d2] }
  | _ => none }
def tupleBeginningsRow : OpenClaim := { program := "ytbjfgnkjmfcokaa", sum := "23fc12e98f889b96ad51645c72f17e87c5379ecf70320fd600f30ad1973bdcc2", func := "coppice/coppicelaw03.TupleBeginnings", spec := "tupleBeginnings", inPlace := ["math.Float64bits", "math.Float64frombits", "internal/bytealg.abigen_runtime_cmpstring"], apart := false }
def TupleBeginningsSaid : Prop := tupleBeginningsRow.holds Try.pinned (OpenSpec.ofChange tupleBeginningsSpec)

/-- ITS FALSE NEIGHBOUR: 'it returns false'. Refute it at one input. -/
def tupleBeginningsWrong : ChangeSpec := { name := "tupleBeginnings", fn := fun _ => fun
  | [d1, d2] => { results := [.lit (.bool false)], args := [d1, d2] }
  | _ => none }
def TupleBeginningsWrongFalsely : Prop := tupleBeginningsRow.holds Try.pinned (OpenSpec.ofChange tupleBeginningsWrong)

/- THE SECOND FORM. 'bulk': how many values and letters a reading holds, each counted each time it is reached (what is shared counts as often as it is met; a slice's spare places count too). A statement '..UptoSaid' is the law's where the arguments, and the package variables that the reading takes, are together of bulk at most 1048576: NARROWER than '..Said'. Prove '..Said' where nothing that the law and all that it calls make is longer than what came in: it says more and counts as full. Else prove '..UptoSaid'. A law counts once. -/
mutual
def uptoBulk {H : Type} : DataW H → Nat
  | .lit (.string bytes) => bytes.length + 1
  | .lit _ => 1
  | .nil => 1
  | .ptr d => uptoBulk d + 1
  | .slice elems spare => uptoBulkAll elems + uptoBulkAll spare + 1
  | .agg parts => uptoBulkAll parts + 1
  | .iface _ d => uptoBulk d + 1
  | .map entries => uptoBulkEntries entries + 1
  | .held _ => 1
def uptoBulkAll {H : Type} : List (DataW H) → Nat
  | [] => 0
  | d :: r => uptoBulk d + uptoBulkAll r
def uptoBulkEntries {H : Type} : List (Lit × DataW H) → Nat
  | [] => 0
  | x :: r => uptoBulkEntry x + uptoBulkEntries r
def uptoBulkEntry {H : Type} : Lit × DataW H → Nat
  | (.string bytes, d) => bytes.length + uptoBulk d + 1
  | (_, d) => uptoBulk d + 1
 end
def uptoSmall : (H : Type) → List (DataW H) → Bool := fun _ ds => decide (uptoBulkAll ds ≤ 1048576)
def OpenSpec.upto (s : _root_.Go.ChangeSpec) : _root_.Go.OpenSpec := { _root_.Go.OpenSpec.ofChange s with cond := some uptoSmall }

/-- 'coppicelaw03.TupleNames', WHERE WHAT IT READS IS OF BULK AT MOST 1048576: true; the input reads as it did. -/
def tupleNamesUptoRow : OpenClaim := { program := "ytbjfgnkjmfcokaa", sum := "23fc12e98f889b96ad51645c72f17e87c5379ecf70320fd600f30ad1973bdcc2", func := "coppice/coppicelaw03.TupleNames", spec := "tupleNames", apart := false, narrowed := true }
def TupleNamesUptoSaid : Prop := tupleNamesUptoRow.holds Try.pinned (OpenSpec.upto tupleNamesSpec)

/-- 'coppicelaw03.TupleCompares', WHERE WHAT IT READS IS OF BULK AT MOST 1048576: true; the input reads as it did. -/
def tupleComparesUptoRow : OpenClaim := { program := "ytbjfgnkjmfcokaa", sum := "23fc12e98f889b96ad51645c72f17e87c5379ecf70320fd600f30ad1973bdcc2", func := "coppice/coppicelaw03.TupleCompares", spec := "tupleCompares", inPlace := ["math.Float64frombits", "math.Float64bits", "internal/bytealg.abigen_runtime_cmpstring"], apart := false, narrowed := true }
def TupleComparesUptoSaid : Prop := tupleComparesUptoRow.holds Try.pinned (OpenSpec.upto tupleComparesSpec)

/-- 'coppicelaw03.TupleBegins', WHERE WHAT IT READS IS OF BULK AT MOST 1048576: true; the input reads as it did. -/
def tupleBeginsUptoRow : OpenClaim := { program := "ytbjfgnkjmfcokaa", sum := "23fc12e98f889b96ad51645c72f17e87c5379ecf70320fd600f30ad1973bdcc2", func := "coppice/coppicelaw03.TupleBegins", spec := "tupleBegins", inPlace := ["math.Float64frombits", "math.Float64bits"], apart := false, narrowed := true }
def TupleBeginsUptoSaid : Prop := tupleBeginsUptoRow.holds Try.pinned (OpenSpec.upto tupleBeginsSpec)

/-- 'coppicelaw03.TupleEncodes', WHERE WHAT IT READS IS OF BULK AT MOST 1048576: true; the input reads as it did. -/
def tupleEncodesUptoRow : OpenClaim := { program := "ytbjfgnkjmfcokaa", sum := "23fc12e98f889b96ad51645c72f17e87c5379ecf70320fd600f30ad1973bdcc2", func := "coppice/coppicelaw03.TupleEncodes", spec := "tupleEncodes", inPlace := ["math.Float64frombits", "math.Float64bits"], apart := false, narrowed := true }
def TupleEncodesUptoSaid : Prop := tupleEncodesUptoRow.holds Try.pinned (OpenSpec.upto tupleEncodesSpec)

/-- 'coppicelaw03.TupleDecodes', WHERE WHAT IT READS IS OF BULK AT MOST 1048576: true; the input reads as it did. -/
def tupleDecodesUptoRow : OpenClaim := { program := "ytbjfgnkjmfcokaa", sum := "23fc12e98f889b96ad51645c72f17e87c5379ecf70320fd600f30ad1973bdcc2", func := "coppice/coppicelaw03.TupleDecodes", spec := "tupleDecodes", inPlace := ["math.Float64frombits", "math.Float64bits"], apart := false, narrowed := true }
def TupleDecodesUptoSaid : Prop := tupleDecodesUptoRow.holds Try.pinned (OpenSpec.upto tupleDecodesSpec)

/-- 'coppicelaw03.TupleReturns', WHERE WHAT IT READS IS OF BULK AT MOST 1048576: true; the input reads as it did. -/
def tupleReturnsUptoRow : OpenClaim := { program := "ytbjfgnkjmfcokaa", sum := "23fc12e98f889b96ad51645c72f17e87c5379ecf70320fd600f30ad1973bdcc2", func := "coppice/coppicelaw03.TupleReturns", spec := "tupleReturns", inPlace := ["math.Float64bits", "math.Float64frombits"], apart := false, narrowed := true }
def TupleReturnsUptoSaid : Prop := tupleReturnsUptoRow.holds Try.pinned (OpenSpec.upto tupleReturnsSpec)

/-- 'coppicelaw03.TupleOneForm', WHERE WHAT IT READS IS OF BULK AT MOST 1048576: true; the input reads as it did. -/
def tupleOneFormUptoRow : OpenClaim := { program := "ytbjfgnkjmfcokaa", sum := "23fc12e98f889b96ad51645c72f17e87c5379ecf70320fd600f30ad1973bdcc2", func := "coppice/coppicelaw03.TupleOneForm", spec := "tupleOneForm", inPlace := ["math.Float64bits", "math.Float64frombits"], apart := false, narrowed := true }
def TupleOneFormUptoSaid : Prop := tupleOneFormUptoRow.holds Try.pinned (OpenSpec.upto tupleOneFormSpec)

/-- 'coppicelaw03.TupleFreshLists', WHERE WHAT IT READS IS OF BULK AT MOST 1048576: true; the input reads as it did. -/
def tupleFreshListsUptoRow : OpenClaim := { program := "ytbjfgnkjmfcokaa", sum := "23fc12e98f889b96ad51645c72f17e87c5379ecf70320fd600f30ad1973bdcc2", func := "coppice/coppicelaw03.TupleFreshLists", spec := "tupleFreshLists", inPlace := ["math.Float64frombits", "math.Float64bits"], apart := false, narrowed := true }
def TupleFreshListsUptoSaid : Prop := tupleFreshListsUptoRow.holds Try.pinned (OpenSpec.upto tupleFreshListsSpec)

/-- 'coppicelaw03.TupleTells', WHERE WHAT IT READS IS OF BULK AT MOST 1048576: true; the input reads as it did. -/
def tupleTellsUptoRow : OpenClaim := { program := "ytbjfgnkjmfcokaa", sum := "23fc12e98f889b96ad51645c72f17e87c5379ecf70320fd600f30ad1973bdcc2", func := "coppice/coppicelaw03.TupleTells", spec := "tupleTells", inPlace := ["math.Float64frombits", "math.Float64bits"], apart := false, narrowed := true }
def TupleTellsUptoSaid : Prop := tupleTellsUptoRow.holds Try.pinned (OpenSpec.upto tupleTellsSpec)

/-- 'coppicelaw03.TupleFresh', WHERE WHAT IT READS IS OF BULK AT MOST 1048576: true; the input reads as it did. -/
def tupleFreshUptoRow : OpenClaim := { program := "ytbjfgnkjmfcokaa", sum := "23fc12e98f889b96ad51645c72f17e87c5379ecf70320fd600f30ad1973bdcc2", func := "coppice/coppicelaw03.TupleFresh", spec := "tupleFresh", inPlace := ["math.Float64frombits", "math.Float64bits"], apart := false, narrowed := true }
def TupleFreshUptoSaid : Prop := tupleFreshUptoRow.holds Try.pinned (OpenSpec.upto tupleFreshSpec)

/-- 'coppicelaw03.TupleOrders', WHERE WHAT IT READS IS OF BULK AT MOST 1048576: true; the input reads as it did. -/
def tupleOrdersUptoRow : OpenClaim := { program := "ytbjfgnkjmfcokaa", sum := "23fc12e98f889b96ad51645c72f17e87c5379ecf70320fd600f30ad1973bdcc2", func := "coppice/coppicelaw03.TupleOrders", spec := "tupleOrders", inPlace := ["math.Float64bits", "math.Float64frombits", "internal/bytealg.abigen_runtime_cmpstring"], apart := false, narrowed := true }
def TupleOrdersUptoSaid : Prop := tupleOrdersUptoRow.holds Try.pinned (OpenSpec.upto tupleOrdersSpec)

/-- 'coppicelaw03.TupleBeginnings', WHERE WHAT IT READS IS OF BULK AT MOST 1048576: true; the input reads as it did. -/
def tupleBeginningsUptoRow : OpenClaim := { program := "ytbjfgnkjmfcokaa", sum := "23fc12e98f889b96ad51645c72f17e87c5379ecf70320fd600f30ad1973bdcc2", func := "coppice/coppicelaw03.TupleBeginnings", spec := "tupleBeginnings", inPlace := ["math.Float64bits", "math.Float64frombits", "internal/bytealg.abigen_runtime_cmpstring"], apart := false, narrowed := true }
def TupleBeginningsUptoSaid : Prop := tupleBeginningsUptoRow.holds Try.pinned (OpenSpec.upto tupleBeginningsSpec)

end Rows
end Go.Proofs.Ytbjfgnkjmfcokaa
