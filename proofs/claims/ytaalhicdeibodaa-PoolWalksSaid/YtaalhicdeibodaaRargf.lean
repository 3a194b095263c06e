/- Layer 5: the fields of arguments opened. No condition. -/
import Derived.Test.YtaalhicdeibodaaRows
import Derived.Test.YtaalhicdeibodaaArgs
import Derived.Lib.SmallJoins
import Derived.Deep.Slices
import Derived.Deep.Fields
namespace Go.Proofs.Ytaalhicdeibodaa
set_option linter.unusedVariables false
open Go.ChangeShapes Go.WideShapes Go.ChangeAt Go.RowKit Go.Joins Go.Deep
theorem fields_of_trodR {H : Type} {enc : TypeId × Value → H} {W : World} {base : Nat} {sp : Nat → Bool} {held : Bool} {t : TypeId} {fs : Array Field} {fuel : Nat} {cs : List Value} {x : DataW H × List MemPlace} (ht : Try.prog.underlying t = some (.struct fs)) (hone : oneCellFields Try.prog fs = true) (hC : Try.prog.cellsOf t = fs.size)
    (h : DataW.trod enc Try.prog W base sp held fuel t cs = some x) : ∃ (ys : List (DataW H × List MemPlace)) (n : Nat), x.1 = .agg (ys.map (·.1)) ∧ cs.length = fs.size ∧ ys.length = fs.size ∧
      ∀ (j : Nat) (f : Field), fs[j]? = some f → ∃ v y, cs[j]? = some v ∧ ys[j]? = some y ∧ DataW.trod enc Try.prog W base sp held n f.type [v] = some y := by
  obtain ⟨ys, n, _, hx, hl, hy, hg⟩ := DataW.trod_struct ht h
  refine ⟨ys, n, by rw [hx], by rw [hl, hC], hy, fun j f hj => ?_⟩
  obtain ⟨ho, hk⟩ := hone_of hone j f hj
  have hj1 : j < fs.size := (Array.getElem?_eq_some_iff.1 hj).1
  have h1 := hg j f hj
  rw [ho, hk, List.drop_eq_getElem_cons (by rw [hl, hC]; exact hj1)] at h1
  exact ⟨_, _, List.getElem?_eq_getElem (by rw [hl, hC]; exact hj1), List.getElem?_eq_getElem (by rw [hy]; exact hj1), h1.trans (List.getElem?_eq_getElem (by rw [hy]; exact hj1))⟩
theorem i64_of_wfR {n : Int} (h : (Lit.int .i64 n).wf = true) : -9223372036854775808 ≤ n ∧ n ≤ 9223372036854775807 := by
  simp [Lit.wf] at h
  have e1 : IntKind.i64.min = -9223372036854775808 := by decide
  have e2 : IntKind.i64.max = 9223372036854775807 := by decide
  omega
end Go.Proofs.Ytaalhicdeibodaa
