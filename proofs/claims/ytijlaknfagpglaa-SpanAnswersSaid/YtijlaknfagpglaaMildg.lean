/- The steps of the lexical walk of a region that draws its order, at operations under a guard. -/
import Derived.Test.YtijlaknfagpglaaMild
namespace Go.Proofs.Ytijlaknfagpglaa
open Go.RowKit
theorem wrap_zero : IntKind.i64.wrap 0 = 0 := by decide
section
variable {P : Program} {ops : Array Oper} {md : Region.Mode} {w0 : World} {sp : Nat → Option ((Nat → Value) → Value → World → Prop)} {L : Act → Kn → Prop} {k : Nat} {o : Oper} {rest : List Oper} {a : Act} {K : Kn}
theorem wpM_oneG (v : Value) (hw : Region.wanted o (yielded ops a.tmps) = true) (hsp : sp k = none) (hv : oneAt P w0 o a v) (h : wpM P md ops w0 sp L (k + 1) rest (a.put o.dst v) (K.upd k v fun _ => True)) : wpM P md ops w0 sp L k (o :: rest) a K := by
  refine ⟨by unfold Okm; simp only [hw, if_true, hsp]; exact ⟨v, hv⟩, fun u kn hr _ => ?_⟩
  unfold Res at hr
  simp only [hw, if_true, hsp] at hr
  obtain ⟨hu, rfl⟩ := hr
  have e := (hu w0 (Below.refl _ _)).symm.trans (hv w0 (Below.refl _ _))
  injection e with e
  injection e with e
  rw [e]
  exact h
theorem wpM_newG (S : (Nat → Value) → Value → World → Prop) (hw : Region.wanted o (yielded ops a.tmps) = true) (hsp : sp k = some S) (hst : ∀ V v, Stable (S V v)) (hV : ∀ V V', (∀ j, uponB md ops ops.size k j = true → V j = V' j) → S V = S V')
    (hv : ∀ w, Below w0.heap.size w0 w → (∀ j, uponB md ops ops.size k j = true → K.K j w) → mildAt P o a w (S K.V))
    (h : ∀ v, (∃ w, Below w0.heap.size w0 w ∧ (∀ j, K.K j w) ∧ S K.V v w) → wpM P md ops w0 sp L (k + 1) rest (a.put o.dst v) (K.upd k v (S K.V v))) : wpM P md ops w0 sp L k (o :: rest) a K := by
  refine ⟨by unfold Okm; simp only [hw, if_true, hsp]; exact ⟨hst, hV, hv⟩, fun u kn hr hG => ?_⟩
  unfold Res at hr
  simp only [hw, if_true, hsp] at hr
  subst hr
  obtain ⟨_, w, hC, hK⟩ := hG
  exact h u ⟨w, hC, (Kn.of_upd hK).1, (Kn.of_upd hK).2⟩
end
end Go.Proofs.Ytijlaknfagpglaa
