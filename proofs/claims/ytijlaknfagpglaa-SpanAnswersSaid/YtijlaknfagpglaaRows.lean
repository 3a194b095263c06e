/-
  No cell of these rows narrows 'for every input' (looked for: loops, veiled, ifaces, maps, wideKeys, modest, calm, conditions, laid).
  DERIVED. THE GIVEN ROWS OF THIS SEAT. 10 by the template 'for every input the law returns true; each argument reads behind the call as it read before'; 0 by the template 'total and deterministic' (their statements: YtijlaknfagpglaaTotals.lean).
  GIVEN WITH THE SEED: the statements are not yours to turn. If you find one false, say at which input.
  Laid BY PROGRAM, IN A SANDBOX (cutbox-rows.mjs): the forced cells as the released guide's own fill.sh prints them over the translation 358b8a98aaefcfd9… (all of the seat's roots in one cut). By AI agents, Wed Nov 11 2026. No macro, syntax, notation, axiom, sorry.
-/
import Derived.Test.YtijlaknfagpglaaChecked
import GoSem.Claim
import GoSem.ClaimJoined
import GoSem.ClaimMapViews
import Derived.JoinedTies
import Derived.KernelRfl
namespace Go.Proofs.Ytijlaknfagpglaa
/- THE CELL 'sum', in the pinned program and in every row, IS THE sha256 OF THE DUMP (.gsa) THAT YtijlaknfagpglaaProg.lean LOADS. Nothing in Lean hashes anything: it is a label: what it is worth is what the hold of that sum in a sandbox is worth. -/
noncomputable def Try.pinned : Pinned := { name := "ytijlaknfagpglaa", sum := "358b8a98aaefcfd902e19ffe582eb43f520c14f23a7cc58ef091400e41e1fdf3", checked := Try.checked }
namespace Rows
def none {H : Type} : Left H := { results := [], args := [] }

/-- 'coppicelaw04.SpanOrder': WHATEVER THE INPUT: true; the input reads as it did. -/
def spanOrderSpec : ChangeSpec := { name := "spanOrder", fn := fun _ => fun
  | [d1, d2] => { results := [.lit (.bool true)], args := [d1, d2] }
  | _ => none }
def spanOrderRow : OpenClaim := { program := "ytijlaknfagpglaa", sum := "358b8a98aaefcfd902e19ffe582eb43f520c14f23a7cc58ef091400e41e1fdf3", func := "coppice/coppicelaw04.SpanOrder", spec := "spanOrder", inPlace := ["internal/bytealg.Compare"], unfollowed := true, recurses := true, apart := false }
def SpanOrderSaid : Prop := spanOrderRow.holds Try.pinned (OpenSpec.ofChange spanOrderSpec)

/-- ITS FALSE NEIGHBOUR: 'it returns false'. Refute it at one input. -/
def spanOrderWrong : ChangeSpec := { name := "spanOrder", fn := fun _ => fun
  | [d1, d2] => { results := [.lit (.bool false)], args := [d1, d2] }
  | _ => none }
def SpanOrderWrongFalsely : Prop := spanOrderRow.holds Try.pinned (OpenSpec.ofChange spanOrderWrong)

/-- 'coppicelaw04.SpanNext': WHATEVER THE INPUT: true; the input reads as it did. -/
def spanNextSpec : ChangeSpec := { name := "spanNext", fn := fun _ => fun
  | [d] => { results := [.lit (.bool true)], args := [d] }
  | _ => none }
def spanNextRow : OpenClaim := { program := "ytijlaknfagpglaa", sum := "358b8a98aaefcfd902e19ffe582eb43f520c14f23a7cc58ef091400e41e1fdf3", func := "coppice/coppicelaw04.SpanNext", spec := "spanNext", inPlace := ["internal/bytealg.Compare"], unfollowed := true, recurses := true, apart := false }
def SpanNextSaid : Prop := spanNextRow.holds Try.pinned (OpenSpec.ofChange spanNextSpec)

/-- ITS FALSE NEIGHBOUR: 'it returns false'. Refute it at one input. -/
def spanNextWrong : ChangeSpec := { name := "spanNext", fn := fun _ => fun
  | [d] => { results := [.lit (.bool false)], args := [d] }
  | _ => none }
def SpanNextWrongFalsely : Prop := spanNextRow.holds Try.pinned (OpenSpec.ofChange spanNextWrong)

/-- 'coppicelaw04.SpanNothingBetween': WHATEVER THE INPUT: true; the input reads as it did. -/
def spanNothingBetweenSpec : ChangeSpec := { name := "spanNothingBetween", fn := fun _ => fun
  | [d1, d2] => { results := [.lit (.bool true)], args := [d1, d2] }
  | _ => none }
def spanNothingBetweenRow : OpenClaim := { program := "ytijlaknfagpglaa", sum := "358b8a98aaefcfd902e19ffe582eb43f520c14f23a7cc58ef091400e41e1fdf3", func := "coppice/coppicelaw04.SpanNothingBetween", spec := "spanNothingBetween", inPlace := ["internal/bytealg.Compare"], unfollowed := true, recurses := true, apart := false }
def SpanNothingBetweenSaid : Prop := spanNothingBetweenRow.holds Try.pinned (OpenSpec.ofChange spanNothingBetweenSpec)

/-- ITS FALSE NEIGHBOUR: 'it returns false'. Refute it at one input. -/
def spanNothingBetweenWrong : ChangeSpec := { name := "spanNothingBetween", fn := fun _ => fun
  | [d1, d2] => { results := [.lit (.bool false)], args := [d1, d2] }
  | _ => none }
def SpanNothingBetweenWrongFalsely : Prop := spanNothingBetweenRow.holds Try.pinned (OpenSpec.ofChange spanNothingBetweenWrong)

/-- 'coppicelaw04.SpanBetween': WHATEVER THE INPUT: true; the input reads as it did. -/
def spanBetweenSpec : ChangeSpec := { name := "spanBetween", fn := fun _ => fun
  | [d1, d2] => { results := [.lit (.bool true)], args := [d1, d2] }
  | _ => none }
def spanBetweenRow : OpenClaim := { program := "ytijlaknfagpglaa", sum := "358b8a98aaefcfd902e19ffe582eb43f520c14f23a7cc58ef091400e41e1fdf3", func := "coppice/coppicelaw04.SpanBetween", spec := "spanBetween", inPlace := ["internal/bytealg.Compare"], unfollowed := true, recurses := true, apart := false }
def SpanBetweenSaid : Prop := spanBetweenRow.holds Try.pinned (OpenSpec.ofChange spanBetweenSpec)

/-- ITS FALSE NEIGHBOUR: 'it returns false'. Refute it at one input. -/
def spanBetweenWrong : ChangeSpec := { name := "spanBetween", fn := fun _ => fun
  | [d1, d2] => { results := [.lit (.bool false)], args := [d1, d2] }
  | _ => none }
def SpanBetweenWrongFalsely : Prop := spanBetweenRow.holds Try.pinned (OpenSpec.ofChange spanBetweenWrong)

/-- 'coppicelaw04.SpanShortest': WHATEVER THE INPUT: true; the input reads as it did. -/
def spanShortestSpec : ChangeSpec := { name := "spanShortest", fn := fun _ => fun
  | [d1, d2, d3] => { results := [.lit (.bool true)], args := [d1, d2, d3] }
  | _ => none }
def spanShortestRow : OpenClaim := { program := "ytijlaknfagpglaa", sum := "358b8a98aaefcfd902e19ffe582eb43f520c14f23a7cc58ef091400e41e1fdf3", func := "coppice/coppicelaw04.SpanShortest", spec := "spanShortest", inPlace := ["internal/bytealg.Compare"], unfollowed := true, recurses := true, apart := false }
def SpanShortestSaid : Prop := spanShortestRow.holds Try.pinned (OpenSpec.ofChange spanShortestSpec)

/-- ITS FALSE NEIGHBOUR: 'it returns false'. Refute it at one input. -/
def spanShortestWrong : ChangeSpec := { name := "spanShortest", fn := fun _ => fun
  | [d1, d2, d3] => { results := [.lit (.bool false)], args := [d1, d2, d3] }
  | _ => none }
def SpanShortestWrongFalsely : Prop := spanShortestRow.holds Try.pinned (OpenSpec.ofChange spanShortestWrong)

/-- 'coppicelaw04.SpanEmptyEqual': WHATEVER THE INPUT: true; the input reads as it did. -/
def spanEmptyEqualSpec : ChangeSpec := { name := "spanEmptyEqual", fn := fun _ => fun
  | [d1, d2] => { results := [.lit (.bool true)], args := [d1, d2] }
  | _ => none }
def spanEmptyEqualRow : OpenClaim := { program := "ytijlaknfagpglaa", sum := "358b8a98aaefcfd902e19ffe582eb43f520c14f23a7cc58ef091400e41e1fdf3", func := "coppice/coppicelaw04.SpanEmptyEqual", spec := "spanEmptyEqual", inPlace := ["internal/bytealg.Compare"], unfollowed := true, recurses := true, apart := false }
def SpanEmptyEqualSaid : Prop := spanEmptyEqualRow.holds Try.pinned (OpenSpec.ofChange spanEmptyEqualSpec)

/-- ITS FALSE NEIGHBOUR: 'it returns false'. Refute it at one input. -/
def spanEmptyEqualWrong : ChangeSpec := { name := "spanEmptyEqual", fn := fun _ => fun
  | [d1, d2] => { results := [.lit (.bool false)], args := [d1, d2] }
  | _ => none }
def SpanEmptyEqualWrongFalsely : Prop := spanEmptyEqualRow.holds Try.pinned (OpenSpec.ofChange spanEmptyEqualWrong)

/-- 'coppicelaw04.SpanNoKey': WHATEVER THE INPUT: true; the input reads as it did. -/
def spanNoKeySpec : ChangeSpec := { name := "spanNoKey", fn := fun _ => fun
  | [d1, d2, d3] => { results := [.lit (.bool true)], args := [d1, d2, d3] }
  | _ => none }
def spanNoKeyRow : OpenClaim := { program := "ytijlaknfagpglaa", sum := "358b8a98aaefcfd902e19ffe582eb43f520c14f23a7cc58ef091400e41e1fdf3", func := "coppice/coppicelaw04.SpanNoKey", spec := "spanNoKey", inPlace := ["internal/bytealg.Compare"], unfollowed := true, recurses := true, apart := false }
def SpanNoKeySaid : Prop := spanNoKeyRow.holds Try.pinned (OpenSpec.ofChange spanNoKeySpec)

/-- ITS FALSE NEIGHBOUR: 'it returns false'. Refute it at one input. -/
def spanNoKeyWrong : ChangeSpec := { name := "spanNoKey", fn := fun _ => fun
  | [d1, d2, d3] => { results := [.lit (.bool false)], args := [d1, d2, d3] }
  | _ => none }
def SpanNoKeyWrongFalsely : Prop := spanNoKeyRow.holds Try.pinned (OpenSpec.ofChange spanNoKeyWrong)

/-- 'coppicelaw04.SpanOneForm': WHATEVER THE INPUT: true; the input reads as it did. -/
def spanOneFormSpec : ChangeSpec := { name := "spanOneForm", fn := fun _ => fun
  | [d1, d2] => { results := [.lit (.bool true)], args := [d1, d2] }
  | _ => none }
def spanOneFormRow : OpenClaim := { program := "ytijlaknfagpglaa", sum := "358b8a98aaefcfd902e19ffe582eb43f520c14f23a7cc58ef091400e41e1fdf3", func := "coppice/coppicelaw04.SpanOneForm", spec := "spanOneForm", inPlace := ["internal/bytealg.Compare"], unfollowed := true, recurses := true, apart := false }
def SpanOneFormSaid : Prop := spanOneFormRow.holds Try.pinned (OpenSpec.ofChange spanOneFormSpec)

/-- ITS FALSE NEIGHBOUR: 'it returns false'. Refute it at one input. -/
def spanOneFormWrong : ChangeSpec := { name := "spanOneForm", fn := fun _ => fun
  | [d1, d2] => { results := [.lit (.bool false)], args := [d1, d2] }
  | _ => none }
def SpanOneFormWrongFalsely : Prop := spanOneFormRow.holds Try.pinned (OpenSpec.ofChange spanOneFormWrong)

/-- 'coppicelaw04.SpanSets': WHATEVER THE INPUT: true; the input reads as it did. -/
def spanSetsSpec : ChangeSpec := { name := "spanSets", fn := fun _ => fun
  | [d1, d2, d3] => { results := [.lit (.bool true)], args := [d1, d2, d3] }
  | _ => none }
def spanSetsRow : OpenClaim := { program := "ytijlaknfagpglaa", sum := "358b8a98aaefcfd902e19ffe582eb43f520c14f23a7cc58ef091400e41e1fdf3", func := "coppice/coppicelaw04.SpanSets", spec := "spanSets", inPlace := ["internal/bytealg.Compare"], unfollowed := true, recurses := true, apart := false }
def SpanSetsSaid : Prop := spanSetsRow.holds Try.pinned (OpenSpec.ofChange spanSetsSpec)

/-- ITS FALSE NEIGHBOUR: 'it returns false'. Refute it at one input. -/
def spanSetsWrong : ChangeSpec := { name := "spanSets", fn := fun _ => fun
  | [d1, d2, d3] => { results := [.lit (.bool false)], args := [d1, d2, d3] }
  | _ => none }
def SpanSetsWrongFalsely : Prop := spanSetsRow.holds Try.pinned (OpenSpec.ofChange spanSetsWrong)

/-- 'coppicelaw04.SpanAnswers': WHATEVER THE INPUT: true; the input reads as it did. -/
def spanAnswersSpec : ChangeSpec := { name := "spanAnswers", fn := fun _ => fun
  | [d] => { results := [.lit (.bool true)], args := [d] }
  | _ => none }
def spanAnswersRow : OpenClaim := { program := "ytijlaknfagpglaa", sum := "358b8a98aaefcfd902e19ffe582eb43f520c14f23a7cc58ef091400e41e1fdf3", func := "coppice/coppicelaw04.SpanAnswers", spec := "spanAnswers", inPlace := ["internal/bytealg.Compare"], unfollowed := true, recurses := true, apart := false }
def SpanAnswersSaid : Prop := spanAnswersRow.holds Try.pinned (OpenSpec.ofChange spanAnswersSpec)

/-- ITS FALSE NEIGHBOUR: 'it returns false'. Refute it at one input. -/
def spanAnswersWrong : ChangeSpec := { name := "spanAnswers", fn := fun _ => fun
  | [d] => { results := [.lit (.bool false)], args := [d] }
  | _ => none }
def SpanAnswersWrongFalsely : Prop := spanAnswersRow.holds Try.pinned (OpenSpec.ofChange spanAnswersWrong)

/- THE SECOND FORM. 'bulk': how many values and letters a reading holds, each counted each time it is reached (what is shared counts as often as it is met; a slice's spare places count too). A statement '..UptoSaid' is the law's where the arguments, and the package variables that the reading takes, are together of bulk at most 1048576: NARROWER than '..Said'. Prove '..Said' where nothing that the law and all that it calls make is longer than what came in: it says more and counts as full. Else prove '..UptoSaid'. A law counts once. -/
mutual
def uptoBulk {H : Type} : DataW H → Nat
  | .lit (.string bytes) => bytes.length + 1
  | .lit _ => 1
  | .nil => 1
  | .ptr d => uptoBulk d + 1
  | .slice elems spare => uptoBulkAll elems + uptoBulkAll spare + 1
  | .agg parts => uptoBulkAll parts + 1
  | .iface _ d => uptoBulk d + 1
  | .map entries => uptoBulkEntries entries + 1
  | .held _ => 1
def uptoBulkAll {H : Type} : List (DataW H) → Nat
  | [] => 0
  | d :: r => uptoBulk d + uptoBulkAll r
def uptoBulkEntries {H : Type} : List (Lit × DataW H) → Nat
  | [] => 0
  | x :: r => uptoBulkEntry x + uptoBulkEntries r
def uptoBulkEntry {H : Type} : Lit × DataW H → Nat
  | (.string bytes, d) => bytes.length + uptoBulk d + 1
  | (_, d) => uptoBulk d + 1
 end
def uptoSmall : (H : Type) → List (DataW H) → Bool := fun _ ds => decide (uptoBulkAll ds ≤ 1048576)
def OpenSpec.upto (s : _root_.Go.ChangeSpec) : _root_.Go.OpenSpec := { _root_.Go.OpenSpec.ofChange s with cond := some uptoSmall }

/-- 'coppicelaw04.SpanOrder', WHERE WHAT IT READS IS OF BULK AT MOST 1048576: true; the input reads as it did. -/
def spanOrderUptoRow : OpenClaim := { program := "ytijlaknfagpglaa", sum := "358b8a98aaefcfd902e19ffe582eb43f520c14f23a7cc58ef091400e41e1fdf3", func := "coppice/coppicelaw04.SpanOrder", spec := "spanOrder", inPlace := ["internal/bytealg.Compare"], unfollowed := true, recurses := true, apart := false, narrowed := true }
def SpanOrderUptoSaid : Prop := spanOrderUptoRow.holds Try.pinned (OpenSpec.upto spanOrderSpec)

/-- 'coppicelaw04.SpanNext', WHERE WHAT IT READS IS OF BULK AT MOST 1048576: true; the input reads as it did. -/
def spanNextUptoRow : OpenClaim := { program := "ytijlaknfagpglaa", sum := "358b8a98aaefcfd902e19ffe582eb43f520c14f23a7cc58ef091400e41e1fdf3", func := "coppice/coppicelaw04.SpanNext", spec := "spanNext", inPlace := ["internal/bytealg.Compare"], unfollowed := true, recurses := true, apart := false, narrowed := true }
def SpanNextUptoSaid : Prop := spanNextUptoRow.holds Try.pinned (OpenSpec.upto spanNextSpec)

/-- 'coppicelaw04.SpanNothingBetween', WHERE WHAT IT READS IS OF BULK AT MOST 1048576: true; the input reads as it did. -/
def spanNothingBetweenUptoRow : OpenClaim := { program := "ytijlaknfagpglaa", sum := "358b8a98aaefcfd902e19ffe582eb43f520c14f23a7cc58ef091400e41e1fdf3", func := "coppice/coppicelaw04.SpanNothingBetween", spec := "spanNothingBetween", inPlace := ["internal/bytealg.Compare"], unfollowed := true, recurses := true, apart := false, narrowed := true }
def SpanNothingBetweenUptoSaid : Prop := spanNothingBetweenUptoRow.holds Try.pinned (OpenSpec.upto spanNothingBetweenSpec)

/-- 'coppicelaw04.SpanBetween', WHERE WHAT IT READS IS OF BULK AT MOST 1048576: true; the input reads as it did. -/
def spanBetweenUptoRow : OpenClaim := { program := "ytijlaknfagpglaa", sum := "358b8a98aaefcfd902e19ffe582eb43f520c14f23a7cc58ef091400e41e1fdf3", func := "coppice/coppicelaw04.SpanBetween", spec := "spanBetween", inPlace := ["internal/bytealg.Compare"], unfollowed := true, recurses := true, apart := false, narrowed := true }
def SpanBetweenUptoSaid : Prop := spanBetweenUptoRow.holds Try.pinned (OpenSpec.upto spanBetweenSpec)

/-- 'coppicelaw04.SpanShortest', WHERE WHAT IT READS IS OF BULK AT MOST 1048576: true; the input reads as it did. -/
def spanShortestUptoRow : OpenClaim := { program := "ytijlaknfagpglaa", sum := "358b8a98aaefcfd902e19ffe582eb43f520c14f23a7cc58ef091400e41e1fdf3", func := "coppice/coppicelaw04.SpanShortest", spec := "spanShortest", inPlace := ["internal/bytealg.Compare"], unfollowed := true, recurses := true, apart := false, narrowed := true }
def SpanShortestUptoSaid : Prop := spanShortestUptoRow.holds Try.pinned (OpenSpec.upto spanShortestSpec)

/-- 'coppicelaw04.SpanEmptyEqual', WHERE WHAT IT READS IS OF BULK AT MOST 1048576: true; the input reads as it did. -/
def spanEmptyEqualUptoRow : OpenClaim := { program := "ytijlaknfagpglaa", sum := "358b8a98aaefcfd902e19ffe582eb43f520c14f23a7cc58ef091400e41e1fdf3", func := "coppice/coppicelaw04.SpanEmptyEqual", spec := "spanEmptyEqual", inPlace := ["internal/bytealg.Compare"], unfollowed := true, recurses := true, apart := false, narrowed := true }
def SpanEmptyEqualUptoSaid : Prop := spanEmptyEqualUptoRow.holds Try.pinned (OpenSpec.upto spanEmptyEqualSpec)

/-- 'coppicelaw04.SpanNoKey', WHERE WHAT IT READS IS OF BULK AT MOST 1048576: true; the input reads as it did. -/
def spanNoKeyUptoRow : OpenClaim := { program := "ytijlaknfagpglaa", sum := "358b8a98aaefcfd902e19ffe582eb43f520c14f23a7cc58ef091400e41e1fdf3", func := "coppice/coppicelaw04.SpanNoKey", spec := "spanNoKey", inPlace := ["internal/bytealg.Compare"], unfollowed := true, recurses := true, apart := false, narrowed := true }
def SpanNoKeyUptoSaid : Prop := spanNoKeyUptoRow.holds Try.pinned (OpenSpec.upto spanNoKeySpec)

/-- 'coppicelaw04.SpanOneForm', WHERE WHAT IT READS IS OF BULK AT MOST 1048576: true; the input reads as it did. -/
def spanOneFormUptoRow : OpenClaim := { program := "ytijlaknfagpglaa", sum := "358b8a98aaefcfd902e19ffe582eb43f520c14f23a7cc58ef091400e41e1fdf3", func := "coppice/coppicelaw04.SpanOneForm", spec := "spanOneForm", inPlace := ["internal/bytealg.Compare"], unfollowed := true, recurses := true, apart := false, narrowed := true }
def SpanOneFormUptoSaid : Prop := spanOneFormUptoRow.holds Try.pinned (OpenSpec.upto spanOneFormSpec)

/-- 'coppicelaw04.SpanSets', WHERE WHAT IT READS IS OF BULK AT MOST 1048576: true; the input reads as it did. -/
def spanSetsUptoRow : OpenClaim := { program := "ytijlaknfagpglaa", sum := "358b8a98aaefcfd902e19ffe582eb43f520c14f23a7cc58ef091400e41e1fdf3", func := "coppice/coppicelaw04.SpanSets", spec := "spanSets", inPlace := ["internal/bytealg.Compare"], unfollowed := true, recurses := true, apart := false, narrowed := true }
def SpanSetsUptoSaid : Prop := spanSetsUptoRow.holds Try.pinned (OpenSpec.upto spanSetsSpec)

/-- 'coppicelaw04.SpanAnswers', WHERE WHAT IT READS IS OF BULK AT MOST 1048576: true; the input reads as it did. -/
def spanAnswersUptoRow : OpenClaim := { program := "ytijlaknfagpglaa", sum := "358b8a98aaefcfd902e19ffe582eb43f520c14f23a7cc58ef091400e41e1fdf3", func := "coppice/coppicelaw04.SpanAnswers", spec := "spanAnswers", inPlace := ["internal/bytealg.Compare"], unfollowed := true, recurses := true, apart := false, narrowed := true }
def SpanAnswersUptoSaid : Prop := spanAnswersUptoRow.holds Try.pinned (OpenSpec.upto spanAnswersSpec)

end Rows
end Go.Proofs.Ytijlaknfagpglaa
