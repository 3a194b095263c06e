/-
  No cell of these rows narrows 'for every input' (looked for: loops, veiled, ifaces, maps, wideKeys, modest, calm, conditions, laid).
  DERIVED. THE GIVEN ROWS OF THIS SEAT. 7 by the template 'for every input the law returns true; each argument reads behind the call as it read before'; 0 by the template 'total and deterministic' (their statements: YtffapgemacbdjaaTotals.lean).
  GIVEN WITH THE SEED: the statements are not yours to turn. If you find one false, say at which input.
  Laid BY PROGRAM, IN A SANDBOX (cutbox-rows.mjs): the forced cells as the released guide's own fill.sh prints them over the translation 2315ff881b21f120… (all of the seat's roots in one cut). By AI agents, Wed Nov 11 2026. No macro, syntax, notation, axiom, sorry.
-/
import Derived.Test.YtffapgemacbdjaaChecked
import GoSem.Claim
import GoSem.ClaimJoined
import GoSem.ClaimMapViews
import Derived.JoinedTies
import Derived.KernelRfl
namespace Go.Proofs.Ytffapgemacbdjaa
/- THE CELL 'sum', in the pinned program and in every row, IS THE sha256 OF THE DUMP (.gsa) THAT YtffapgemacbdjaaProg.lean LOADS. Nothing in Lean hashes anything: it is a label: what it is worth is what the hold of that sum in a sandbox is worth. -/
noncomputable def Try.pinned : Pinned := { name := "ytffapgemacbdjaa", sum := "2315ff881b21f12002e3f0a52199cec91d8e4897485ef872df6e58f48cc97728", checked := Try.checked }
namespace Rows
def none {H : Type} : Left H := { results := [], args := [] }

/-- 'coppicelaw05.RunsOrder': WHATEVER THE INPUT: true; the input reads as it did. -/
def runsOrderSpec : ChangeSpec := { name := "runsOrder", fn := fun _ => fun
  | [d1, d2, d3] => { results := [.lit (.bool true)], args := [d1, d2, d3] }
  | _ => none }
def runsOrderRow : OpenClaim := { program := "ytffapgemacbdjaa", sum := "2315ff881b21f12002e3f0a52199cec91d8e4897485ef872df6e58f48cc97728", func := "coppice/coppicelaw05.RunsOrder", spec := "runsOrder", unfollowed := true, recurses := true, apart := false }
def RunsOrderSaid : Prop := runsOrderRow.holds Try.pinned (OpenSpec.ofChange runsOrderSpec)

/-- ITS FALSE NEIGHBOUR: 'it returns false'. Refute it at one input. -/
def runsOrderWrong : ChangeSpec := { name := "runsOrder", fn := fun _ => fun
  | [d1, d2, d3] => { results := [.lit (.bool false)], args := [d1, d2, d3] }
  | _ => none }
def RunsOrderWrongFalsely : Prop := runsOrderRow.holds Try.pinned (OpenSpec.ofChange runsOrderWrong)

/-- 'coppicelaw05.RunsMeaning': WHATEVER THE INPUT: true; the input reads as it did. -/
def runsMeaningSpec : ChangeSpec := { name := "runsMeaning", fn := fun _ => fun
  | [d] => { results := [.lit (.bool true)], args := [d] }
  | _ => none }
def runsMeaningRow : OpenClaim := { program := "ytffapgemacbdjaa", sum := "2315ff881b21f12002e3f0a52199cec91d8e4897485ef872df6e58f48cc97728", func := "coppice/coppicelaw05.RunsMeaning", spec := "runsMeaning", unfollowed := true, recurses := true, apart := false }
def RunsMeaningSaid : Prop := runsMeaningRow.holds Try.pinned (OpenSpec.ofChange runsMeaningSpec)

/-- ITS FALSE NEIGHBOUR: 'it returns false'. Refute it at one input. -/
def runsMeaningWrong : ChangeSpec := { name := "runsMeaning", fn := fun _ => fun
  | [d] => { results := [.lit (.bool false)], args := [d] }
  | _ => none }
def RunsMeaningWrongFalsely : Prop := runsMeaningRow.holds Try.pinned (OpenSpec.ofChange runsMeaningWrong)

/-- 'coppicelaw05.RunsSmall': WHATEVER THE INPUT: true; the input reads as it did. -/
def runsSmallSpec : ChangeSpec := { name := "runsSmall", fn := fun _ => fun
  | [d] => { results := [.lit (.bool true)], args := [d] }
  | _ => none }
def runsSmallRow : OpenClaim := { program := "ytffapgemacbdjaa", sum := "2315ff881b21f12002e3f0a52199cec91d8e4897485ef872df6e58f48cc97728", func := "coppice/coppicelaw05.RunsSmall", spec := "runsSmall", unfollowed := true, recurses := true, apart := false }
def RunsSmallSaid : Prop := runsSmallRow.holds Try.pinned (OpenSpec.ofChange runsSmallSpec)

/-- ITS FALSE NEIGHBOUR: 'it returns false'. Refute it at one input. -/
def runsSmallWrong : ChangeSpec := { name := "runsSmall", fn := fun _ => fun
  | [d] => { results := [.lit (.bool false)], args := [d] }
  | _ => none }
def RunsSmallWrongFalsely : Prop := runsSmallRow.holds Try.pinned (OpenSpec.ofChange runsSmallWrong)

/-- 'coppicelaw05.RunsByte': WHATEVER THE INPUT: true; the input reads as it did. -/
def runsByteSpec : ChangeSpec := { name := "runsByte", fn := fun _ => fun
  | [d] => { results := [.lit (.bool true)], args := [d] }
  | _ => none }
def runsByteRow : OpenClaim := { program := "ytffapgemacbdjaa", sum := "2315ff881b21f12002e3f0a52199cec91d8e4897485ef872df6e58f48cc97728", func := "coppice/coppicelaw05.RunsByte", spec := "runsByte", unfollowed := true, recurses := true, apart := false }
def RunsByteSaid : Prop := runsByteRow.holds Try.pinned (OpenSpec.ofChange runsByteSpec)

/-- ITS FALSE NEIGHBOUR: 'it returns false'. Refute it at one input. -/
def runsByteWrong : ChangeSpec := { name := "runsByte", fn := fun _ => fun
  | [d] => { results := [.lit (.bool false)], args := [d] }
  | _ => none }
def RunsByteWrongFalsely : Prop := runsByteRow.holds Try.pinned (OpenSpec.ofChange runsByteWrong)

/-- 'coppicelaw05.RunsWide': WHATEVER THE INPUT: true; the input reads as it did. -/
def runsWideSpec : ChangeSpec := { name := "runsWide", fn := fun _ => fun
  | [d] => { results := [.lit (.bool true)], args := [d] }
  | _ => none }
def runsWideRow : OpenClaim := { program := "ytffapgemacbdjaa", sum := "2315ff881b21f12002e3f0a52199cec91d8e4897485ef872df6e58f48cc97728", func := "coppice/coppicelaw05.RunsWide", spec := "runsWide", unfollowed := true, recurses := true, apart := false }
def RunsWideSaid : Prop := runsWideRow.holds Try.pinned (OpenSpec.ofChange runsWideSpec)

/-- ITS FALSE NEIGHBOUR: 'it returns false'. Refute it at one input. -/
def runsWideWrong : ChangeSpec := { name := "runsWide", fn := fun _ => fun
  | [d] => { results := [.lit (.bool false)], args := [d] }
  | _ => none }
def RunsWideWrongFalsely : Prop := runsWideRow.holds Try.pinned (OpenSpec.ofChange runsWideWrong)

/-- 'coppicelaw05.RunsHalf': WHATEVER THE INPUT: true; the input reads as it did. -/
def runsHalfSpec : ChangeSpec := { name := "runsHalf", fn := fun _ => fun
  | [d] => { results := [.lit (.bool true)], args := [d] }
  | _ => none }
def runsHalfRow : OpenClaim := { program := "ytffapgemacbdjaa", sum := "2315ff881b21f12002e3f0a52199cec91d8e4897485ef872df6e58f48cc97728", func := "coppice/coppicelaw05.RunsHalf", spec := "runsHalf", unfollowed := true, recurses := true, apart := false }
def RunsHalfSaid : Prop := runsHalfRow.holds Try.pinned (OpenSpec.ofChange runsHalfSpec)

/-- ITS FALSE NEIGHBOUR: 'it returns false'. Refute it at one input. -/
def runsHalfWrong : ChangeSpec := { name := "runsHalf", fn := fun _ => fun
  | [d] => { results := [.lit (.bool false)], args := [d] }
  | _ => none }
def RunsHalfWrongFalsely : Prop := runsHalfRow.holds Try.pinned (OpenSpec.ofChange runsHalfWrong)

/-- 'coppicelaw05.RunsWord': WHATEVER THE INPUT: true; the input reads as it did. -/
def runsWordSpec : ChangeSpec := { name := "runsWord", fn := fun _ => fun
  | [d] => { results := [.lit (.bool true)], args := [d] }
  | _ => none }
def runsWordRow : OpenClaim := { program := "ytffapgemacbdjaa", sum := "2315ff881b21f12002e3f0a52199cec91d8e4897485ef872df6e58f48cc97728", func := "coppice/coppicelaw05.RunsWord", spec := "runsWord", unfollowed := true, recurses := true, apart := false }
def RunsWordSaid : Prop := runsWordRow.holds Try.pinned (OpenSpec.ofChange runsWordSpec)

/-- ITS FALSE NEIGHBOUR: 'it returns false'. Refute it at one input. -/
def runsWordWrong : ChangeSpec := { name := "runsWord", fn := fun _ => fun
  | [d] => { results := [.lit (.bool false)], args := [d] }
  | _ => none }
def RunsWordWrongFalsely : Prop := runsWordRow.holds Try.pinned (OpenSpec.ofChange runsWordWrong)

/- THE SECOND FORM. 'bulk': how many values and letters a reading holds, each counted each time it is reached (what is shared counts as often as it is met; a slice's spare places count too). A statement '..UptoSaid' is the law's where the arguments, and the package variables that the reading takes, are together of bulk at most 1048576: NARROWER than '..Said'. Prove '..Said' where nothing that the law and all that it calls make is longer than what came in: it says more and counts as full. Else prove '..UptoSaid'. A law counts once. -/
mutual
def uptoBulk {H : Type} : DataW H → Nat
  | .lit (.string bytes) => bytes.length + 1
  | .lit _ => 1
  | .nil => 1
  | .ptr d => uptoBulk d + 1
  | .slice elems spare => uptoBulkAll elems + uptoBulkAll spare + 1
  | .agg parts => uptoBulkAll parts + 1
  | .iface _ d => uptoBulk d + 1
  | .map entries => uptoBulkEntries entries + 1
  | .held _ => 1
def uptoBulkAll {H : Type} : List (DataW H) → Nat
  | [] => 0
  | d :: r => uptoBulk d + uptoBulkAll r
def uptoBulkEntries {H : Type} : List (Lit × DataW H) → Nat
  | [] => 0
  | x :: r => uptoBulkEntry x + uptoBulkEntries r
def uptoBulkEntry {H : Type} : Lit × DataW H → Nat
  | (.string bytes, d) => bytes.length + uptoBulk d + 1
  | (_, d) => uptoBulk d + 1
 end
def uptoSmall : (H : Type) → List (DataW H) → Bool := fun _ ds => decide (uptoBulkAll ds ≤ 1048576)
def OpenSpec.upto (s : _root_.Go.ChangeSpec) : _root_.Go.OpenSpec := { _root_.Go.OpenSpec.ofChange s with cond := some uptoSmall }

/-- 'coppicelaw05.RunsOrder', WHERE WHAT IT READS IS OF BULK AT MOST 1048576: true; the input reads as it did. -/
def runsOrderUptoRow : OpenClaim := { program := "ytffapgemacbdjaa", sum := "2315ff881b21f12002e3f0a52199cec91d8e4897485ef872df6e58f48cc97728", func := "coppice/coppicelaw05.RunsOrder", spec := "runsOrder", unfollowed := true, recurses := true, apart := false, narrowed := true }
def RunsOrderUptoSaid : Prop := runsOrderUptoRow.holds Try.pinned (OpenSpec.upto runsOrderSpec)

/-- 'coppicelaw05.RunsMeaning', WHERE WHAT IT READS IS OF BULK AT MOST 1048576: true; the input reads as it did. -/
def runsMeaningUptoRow : OpenClaim := { program := "ytffapgemacbdjaa", sum := "2315ff881b21f12002e3f0a52199cec91d8e4897485ef872df6e58f48cc97728", func := "coppice/coppicelaw05.RunsMeaning", spec := "runsMeaning", unfollowed := true, recurses := true, apart := false, narrowed := true }
def RunsMeaningUptoSaid : Prop := runsMeaningUptoRow.holds Try.pinned (OpenSpec.upto runsMeaningSpec)

/-- 'coppicelaw05.RunsSmall', WHERE WHAT IT READS IS OF BULK AT MOST 1048576: true; the input reads as it did. -/
def runsSmallUptoRow : OpenClaim := { program := "ytffapgemacbdjaa", sum := "2315ff881b21f12002e3f0a52199cec91d8e4897485ef872df6e58f48cc97728", func := "coppice/coppicelaw05.RunsSmall", spec := "runsSmall", unfollowed := true, recurses := true, apart := false, narrowed := true }
def RunsSmallUptoSaid : Prop := runsSmallUptoRow.holds Try.pinned (OpenSpec.upto runsSmallSpec)

/-- 'coppicelaw05.RunsByte', WHERE WHAT IT READS IS OF BULK AT MOST 1048576: true; the input reads as it did. -/
def runsByteUptoRow : OpenClaim := { program := "ytffapgemacbdjaa", sum := "2315ff881b21f12002e3f0a52199cec91d8e4897485ef872df6e58f48cc97728", func := "coppice/coppicelaw05.RunsByte", spec := "runsByte", unfollowed := true, recurses := true, apart := false, narrowed := true }
def RunsByteUptoSaid : Prop := runsByteUptoRow.holds Try.pinned (OpenSpec.upto runsByteSpec)

/-- 'coppicelaw05.RunsWide', WHERE WHAT IT READS IS OF BULK AT MOST 1048576: true; the input reads as it did. -/
def runsWideUptoRow : OpenClaim := { program := "ytffapgemacbdjaa", sum := "2315ff881b21f12002e3f0a52199cec91d8e4897485ef872df6e58f48cc97728", func := "coppice/coppicelaw05.RunsWide", spec := "runsWide", unfollowed := true, recurses := true, apart := false, narrowed := true }
def RunsWideUptoSaid : Prop := runsWideUptoRow.holds Try.pinned (OpenSpec.upto runsWideSpec)

/-- 'coppicelaw05.RunsHalf', WHERE WHAT IT READS IS OF BULK AT MOST 1048576: true; the input reads as it did. -/
def runsHalfUptoRow : OpenClaim := { program := "ytffapgemacbdjaa", sum := "2315ff881b21f12002e3f0a52199cec91d8e4897485ef872df6e58f48cc97728", func := "coppice/coppicelaw05.RunsHalf", spec := "runsHalf", unfollowed := true, recurses := true, apart := false, narrowed := true }
def RunsHalfUptoSaid : Prop := runsHalfUptoRow.holds Try.pinned (OpenSpec.upto runsHalfSpec)

/-- 'coppicelaw05.RunsWord', WHERE WHAT IT READS IS OF BULK AT MOST 1048576: true; the input reads as it did. -/
def runsWordUptoRow : OpenClaim := { program := "ytffapgemacbdjaa", sum := "2315ff881b21f12002e3f0a52199cec91d8e4897485ef872df6e58f48cc97728", func := "coppice/coppicelaw05.RunsWord", spec := "runsWord", unfollowed := true, recurses := true, apart := false, narrowed := true }
def RunsWordUptoSaid : Prop := runsWordUptoRow.holds Try.pinned (OpenSpec.upto runsWordSpec)

end Rows
end Go.Proofs.Ytffapgemacbdjaa
