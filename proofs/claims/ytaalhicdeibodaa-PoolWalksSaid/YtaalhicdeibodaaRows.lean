/-
  No cell of these rows narrows 'for every input' (looked for: loops, veiled, ifaces, maps, wideKeys, modest, calm, conditions, laid).
  DERIVED. THE GIVEN ROWS OF THIS SEAT. 7 by the template 'for every input the law returns true; each argument reads behind the call as it read before'; 0 by the template 'total and deterministic' (their statements: YtaalhicdeibodaaTotals.lean).
  GIVEN WITH THE SEED: the statements are not yours to turn. If you find one false, say at which input.
  Laid BY PROGRAM, IN A SANDBOX (cutbox-rows.mjs): the forced cells as the released guide's own fill.sh prints them over the translation 701ecabba882eae4… (all of the seat's roots in one cut). By AI agents, Wed Nov 11 2026. No macro, syntax, notation, axiom, sorry.
-/
import Derived.Test.YtaalhicdeibodaaChecked
import GoSem.Claim
import GoSem.ClaimJoined
import GoSem.ClaimMapViews
import Derived.JoinedTies
import Derived.KernelRfl
namespace Go.Proofs.Ytaalhicdeibodaa
/- THE CELL 'sum', in the pinned program and in every row, IS THE sha256 OF THE DUMP (.gsa) THAT YtaalhicdeibodaaProg.lean LOADS. Nothing in Lean hashes anything: it is a label: what it is worth is what the hold of that sum in a sandbox is worth. -/
noncomputable def Try.pinned : Pinned := { name := "ytaalhicdeibodaa", sum := "701ecabba882eae497131254aab05231fc6b4b07f27b11d631f722f29c20bf0a", checked := Try.checked }
namespace Rows
def none {H : Type} : Left H := { results := [], args := [] }

/-- 'coppicelaw10.PoolBack': WHATEVER THE INPUT: true; the input reads as it did. -/
def poolBackSpec : ChangeSpec := { name := "poolBack", fn := fun _ => fun
  | [d1, d2, d3] => { results := [.lit (.bool true)], args := [d1, d2, d3] }
  | _ => none }
def poolBackRow : OpenClaim := { program := "ytaalhicdeibodaa", sum := "701ecabba882eae497131254aab05231fc6b4b07f27b11d631f722f29c20bf0a", func := "coppice/coppicelaw10.PoolBack", spec := "poolBack", unfollowed := true, recurses := true, apart := false }
def PoolBackSaid : Prop := poolBackRow.holds Try.pinned (OpenSpec.ofChange poolBackSpec)

/-- ITS FALSE NEIGHBOUR: 'it returns false'. Refute it at one input. -/
def poolBackWrong : ChangeSpec := { name := "poolBack", fn := fun _ => fun
  | [d1, d2, d3] => { results := [.lit (.bool false)], args := [d1, d2, d3] }
  | _ => none }
def PoolBackWrongFalsely : Prop := poolBackRow.holds Try.pinned (OpenSpec.ofChange poolBackWrong)

/-- 'coppicelaw10.PoolWalks': WHATEVER THE INPUT: true; the input reads as it did. -/
def poolWalksSpec : ChangeSpec := { name := "poolWalks", fn := fun _ => fun
  | [d1, d2, d3, d4] => { results := [.lit (.bool true)], args := [d1, d2, d3, d4] }
  | _ => none }
def poolWalksRow : OpenClaim := { program := "ytaalhicdeibodaa", sum := "701ecabba882eae497131254aab05231fc6b4b07f27b11d631f722f29c20bf0a", func := "coppice/coppicelaw10.PoolWalks", spec := "poolWalks", unfollowed := true, recurses := true, apart := false }
def PoolWalksSaid : Prop := poolWalksRow.holds Try.pinned (OpenSpec.ofChange poolWalksSpec)

/-- ITS FALSE NEIGHBOUR: 'it returns false'. Refute it at one input. -/
def poolWalksWrong : ChangeSpec := { name := "poolWalks", fn := fun _ => fun
  | [d1, d2, d3, d4] => { results := [.lit (.bool false)], args := [d1, d2, d3, d4] }
  | _ => none }
def PoolWalksWrongFalsely : Prop := poolWalksRow.holds Try.pinned (OpenSpec.ofChange poolWalksWrong)

/-- 'coppicelaw10.PoolLeavesWhatLasts': WHATEVER THE INPUT: true; the input reads as it did. -/
def poolLeavesWhatLastsSpec : ChangeSpec := { name := "poolLeavesWhatLasts", fn := fun _ => fun
  | [d1, d2] => { results := [.lit (.bool true)], args := [d1, d2] }
  | _ => none }
def poolLeavesWhatLastsRow : OpenClaim := { program := "ytaalhicdeibodaa", sum := "701ecabba882eae497131254aab05231fc6b4b07f27b11d631f722f29c20bf0a", func := "coppice/coppicelaw10.PoolLeavesWhatLasts", spec := "poolLeavesWhatLasts", unfollowed := true, recurses := true, apart := false }
def PoolLeavesWhatLastsSaid : Prop := poolLeavesWhatLastsRow.holds Try.pinned (OpenSpec.ofChange poolLeavesWhatLastsSpec)

/-- ITS FALSE NEIGHBOUR: 'it returns false'. Refute it at one input. -/
def poolLeavesWhatLastsWrong : ChangeSpec := { name := "poolLeavesWhatLasts", fn := fun _ => fun
  | [d1, d2] => { results := [.lit (.bool false)], args := [d1, d2] }
  | _ => none }
def PoolLeavesWhatLastsWrongFalsely : Prop := poolLeavesWhatLastsRow.holds Try.pinned (OpenSpec.ofChange poolLeavesWhatLastsWrong)

/-- 'coppicelaw10.PoolMakes': WHATEVER THE INPUT: true; the input reads as it did. -/
def poolMakesSpec : ChangeSpec := { name := "poolMakes", fn := fun _ => fun
  | [d] => { results := [.lit (.bool true)], args := [d] }
  | _ => none }
def poolMakesRow : OpenClaim := { program := "ytaalhicdeibodaa", sum := "701ecabba882eae497131254aab05231fc6b4b07f27b11d631f722f29c20bf0a", func := "coppice/coppicelaw10.PoolMakes", spec := "poolMakes", unfollowed := true, recurses := true, apart := false }
def PoolMakesSaid : Prop := poolMakesRow.holds Try.pinned (OpenSpec.ofChange poolMakesSpec)

/-- ITS FALSE NEIGHBOUR: 'it returns false'. Refute it at one input. -/
def poolMakesWrong : ChangeSpec := { name := "poolMakes", fn := fun _ => fun
  | [d] => { results := [.lit (.bool false)], args := [d] }
  | _ => none }
def PoolMakesWrongFalsely : Prop := poolMakesRow.holds Try.pinned (OpenSpec.ofChange poolMakesWrong)

/-- 'coppicelaw10.PoolAnswers': WHATEVER THE INPUT: true; the input reads as it did. -/
def poolAnswersSpec : ChangeSpec := { name := "poolAnswers", fn := fun _ => fun
  | [d1, d2] => { results := [.lit (.bool true)], args := [d1, d2] }
  | _ => none }
def poolAnswersRow : OpenClaim := { program := "ytaalhicdeibodaa", sum := "701ecabba882eae497131254aab05231fc6b4b07f27b11d631f722f29c20bf0a", func := "coppice/coppicelaw10.PoolAnswers", spec := "poolAnswers", unfollowed := true, recurses := true, apart := false }
def PoolAnswersSaid : Prop := poolAnswersRow.holds Try.pinned (OpenSpec.ofChange poolAnswersSpec)

/-- ITS FALSE NEIGHBOUR: 'it returns false'. Refute it at one input. -/
def poolAnswersWrong : ChangeSpec := { name := "poolAnswers", fn := fun _ => fun
  | [d1, d2] => { results := [.lit (.bool false)], args := [d1, d2] }
  | _ => none }
def PoolAnswersWrongFalsely : Prop := poolAnswersRow.holds Try.pinned (OpenSpec.ofChange poolAnswersWrong)

/-- 'coppicelaw10.PoolUndone': WHATEVER THE INPUT: true; the input reads as it did. -/
def poolUndoneSpec : ChangeSpec := { name := "poolUndone", fn := fun _ => fun
  | [d1, d2, d3, d4] => { results := [.lit (.bool true)], args := [d1, d2, d3, d4] }
  | _ => none }
def poolUndoneRow : OpenClaim := { program := "ytaalhicdeibodaa", sum := "701ecabba882eae497131254aab05231fc6b4b07f27b11d631f722f29c20bf0a", func := "coppice/coppicelaw10.PoolUndone", spec := "poolUndone", unfollowed := true, recurses := true, apart := false }
def PoolUndoneSaid : Prop := poolUndoneRow.holds Try.pinned (OpenSpec.ofChange poolUndoneSpec)

/-- ITS FALSE NEIGHBOUR: 'it returns false'. Refute it at one input. -/
def poolUndoneWrong : ChangeSpec := { name := "poolUndone", fn := fun _ => fun
  | [d1, d2, d3, d4] => { results := [.lit (.bool false)], args := [d1, d2, d3, d4] }
  | _ => none }
def PoolUndoneWrongFalsely : Prop := poolUndoneRow.holds Try.pinned (OpenSpec.ofChange poolUndoneWrong)

/-- 'coppicelaw10.PoolSettled': WHATEVER THE INPUT: true; the input reads as it did. -/
def poolSettledSpec : ChangeSpec := { name := "poolSettled", fn := fun _ => fun
  | [d1, d2, d3] => { results := [.lit (.bool true)], args := [d1, d2, d3] }
  | _ => none }
def poolSettledRow : OpenClaim := { program := "ytaalhicdeibodaa", sum := "701ecabba882eae497131254aab05231fc6b4b07f27b11d631f722f29c20bf0a", func := "coppice/coppicelaw10.PoolSettled", spec := "poolSettled", unfollowed := true, recurses := true, apart := false }
def PoolSettledSaid : Prop := poolSettledRow.holds Try.pinned (OpenSpec.ofChange poolSettledSpec)

/-- ITS FALSE NEIGHBOUR: 'it returns false'. Refute it at one input. -/
def poolSettledWrong : ChangeSpec := { name := "poolSettled", fn := fun _ => fun
  | [d1, d2, d3] => { results := [.lit (.bool false)], args := [d1, d2, d3] }
  | _ => none }
def PoolSettledWrongFalsely : Prop := poolSettledRow.holds Try.pinned (OpenSpec.ofChange poolSettledWrong)

/- THE SECOND FORM. 'bulk': how many values and letters a reading holds, each counted each time it is reached (what is shared counts as often as it is met; a slice's spare places count too). A statement '..UptoSaid' is the law's where the arguments, and the package variables that the reading takes, are together of bulk at most 1048576: NARROWER than '..Said'. Prove '..Said' where nothing that the law and all that it calls make is longer than what came in: it says more and counts as full. Else prove '..UptoSaid'. A law counts once. -/
mutual
def uptoBulk {H : Type} : DataW H → Nat
  | .lit (.string bytes) => bytes.length + 1
  | .lit _ => 1
  | .nil => 1
  | .ptr d => uptoBulk d + 1
  | .slice elems spare => uptoBulkAll elems + uptoBulkAll spare + 1
  | .agg parts => uptoBulkAll parts + 1
  | .iface _ d => uptoBulk d + 1
  | .map entries => uptoBulkEntries entries + 1
  | .held _ => 1
def uptoBulkAll {H : Type} : List (DataW H) → Nat
  | [] => 0
  | d :: r => uptoBulk d + uptoBulkAll r
def uptoBulkEntries {H : Type} : List (Lit × DataW H) → Nat
  | [] => 0
  | x :: r => uptoBulkEntry x + uptoBulkEntries r
def uptoBulkEntry {H : Type} : Lit × DataW H → Nat
  | (.string bytes, d) => bytes.length + uptoBulk d + 1
  | (_, d) => uptoBulk d + 1
 end
def uptoSmall : (H : Type) → List (DataW H) → Bool := fun _ ds => decide (uptoBulkAll ds ≤ 1048576)
def OpenSpec.upto (s : _root_.Go.ChangeSpec) : _root_.Go.OpenSpec := { _root_.Go.OpenSpec.ofChange s with cond := some uptoSmall }

/-- 'coppicelaw10.PoolBack', WHERE WHAT IT READS IS OF BULK AT MOST 1048576: true; the input reads as it did. -/
def poolBackUptoRow : OpenClaim := { program := "ytaalhicdeibodaa", sum := "701ecabba882eae497131254aab05231fc6b4b07f27b11d631f722f29c20bf0a", func := "coppice/coppicelaw10.PoolBack", spec := "poolBack", unfollowed := true, recurses := true, apart := false, narrowed := true }
def PoolBackUptoSaid : Prop := poolBackUptoRow.holds Try.pinned (OpenSpec.upto poolBackSpec)

/-- 'coppicelaw10.PoolWalks', WHERE WHAT IT READS IS OF BULK AT MOST 1048576: true; the input reads as it did. -/
def poolWalksUptoRow : OpenClaim := { program := "ytaalhicdeibodaa", sum := "701ecabba882eae497131254aab05231fc6b4b07f27b11d631f722f29c20bf0a", func := "coppice/coppicelaw10.PoolWalks", spec := "poolWalks", unfollowed := true, recurses := true, apart := false, narrowed := true }
def PoolWalksUptoSaid : Prop := poolWalksUptoRow.holds Try.pinned (OpenSpec.upto poolWalksSpec)

/-- 'coppicelaw10.PoolLeavesWhatLasts', WHERE WHAT IT READS IS OF BULK AT MOST 1048576: true; the input reads as it did. -/
def poolLeavesWhatLastsUptoRow : OpenClaim := { program := "ytaalhicdeibodaa", sum := "701ecabba882eae497131254aab05231fc6b4b07f27b11d631f722f29c20bf0a", func := "coppice/coppicelaw10.PoolLeavesWhatLasts", spec := "poolLeavesWhatLasts", unfollowed := true, recurses := true, apart := false, narrowed := true }
def PoolLeavesWhatLastsUptoSaid : Prop := poolLeavesWhatLastsUptoRow.holds Try.pinned (OpenSpec.upto poolLeavesWhatLastsSpec)

/-- 'coppicelaw10.PoolMakes', WHERE WHAT IT READS IS OF BULK AT MOST 1048576: true; the input reads as it did. -/
def poolMakesUptoRow : OpenClaim := { program := "ytaalhicdeibodaa", sum := "701ecabba882eae497131254aab05231fc6b4b07f27b11d631f722f29c20bf0a", func := "coppice/coppicelaw10.PoolMakes", spec := "poolMakes", unfollowed := true, recurses := true, apart := false, narrowed := true }
def PoolMakesUptoSaid : Prop := poolMakesUptoRow.holds Try.pinned (OpenSpec.upto poolMakesSpec)

/-- 'coppicelaw10.PoolAnswers', WHERE WHAT IT READS IS OF BULK AT MOST 1048576: true; the input reads as it did. -/
def poolAnswersUptoRow : OpenClaim := { program := "ytaalhicdeibodaa", sum := "701ecabba882eae497131254aab05231fc6b4b07f27b11d631f722f29c20bf0a", func := "coppice/coppicelaw10.PoolAnswers", spec := "poolAnswers", unfollowed := true, recurses := true, apart := false, narrowed := true }
def PoolAnswersUptoSaid : Prop := poolAnswersUptoRow.holds Try.pinned (OpenSpec.upto poolAnswersSpec)

/-- 'coppicelaw10.PoolUndone', WHERE WHAT IT READS IS OF BULK AT MOST 1048576: true; the input reads as it did. -/
def poolUndoneUptoRow : OpenClaim := { program := "ytaalhicdeibodaa", sum := "701ecabba882eae497131254aab05231fc6b4b07f27b11d631f722f29c20bf0a", func := "coppice/coppicelaw10.PoolUndone", spec := "poolUndone", unfollowed := true, recurses := true, apart := false, narrowed := true }
def PoolUndoneUptoSaid : Prop := poolUndoneUptoRow.holds Try.pinned (OpenSpec.upto poolUndoneSpec)

/-- 'coppicelaw10.PoolSettled', WHERE WHAT IT READS IS OF BULK AT MOST 1048576: true; the input reads as it did. -/
def poolSettledUptoRow : OpenClaim := { program := "ytaalhicdeibodaa", sum := "701ecabba882eae497131254aab05231fc6b4b07f27b11d631f722f29c20bf0a", func := "coppice/coppicelaw10.PoolSettled", spec := "poolSettled", unfollowed := true, recurses := true, apart := false, narrowed := true }
def PoolSettledUptoSaid : Prop := poolSettledUptoRow.holds Try.pinned (OpenSpec.upto poolSettledSpec)

end Rows
end Go.Proofs.Ytaalhicdeibodaa
