/- Go's stable sort over ranges: the row that is sorted. No condition. -/
import Derived.Test.YtijlaknfagpglaaSst
import Derived.Test.YtijlaknfagpglaaSpanh
import Derived.Test.YtijlaknfagpglaaRg
import Derived.Test.YtijlaknfagpglaaAparw
namespace Go.Proofs.Ytijlaknfagpglaa
open Go.RowKit Go.Proofs Go.Sort
set_option linter.unusedVariables false
/-- A range as it lies. -/
structure Fr where
  lA : Option Addr
  lc : Nat
  lo : List UInt8
  hA : Option Addr
  hc : Nat
  hi : List UInt8
  op : Bool
instance : Inhabited Fr := ⟨⟨none, 0, [], none, 0, [], false⟩⟩
abbrev c3 (f : Fr) : List Value := [.slice f.lA f.lo.length f.lc, .slice f.hA f.hi.length f.hc, .bool f.op]
def ltF (x y : Fr) : Bool := decide (cmpB x.lo y.lo < 0)
abbrev DG (g : Nat) : Nat → Obj → Prop := fun k _ => k = g
/-- A list of bytes that lies, but not in block g. -/
structure SlN (g : Nat) (w : World) (A : Option Addr) (c : Nat) (bs : List UInt8) : Prop where
  sl : Sl w A c bs
  ne : 0 < bs.length → ∀ a, A = some a → a.block ≠ g
theorem exc_cell {g : Nat} {w w' : World} (hx : Exc (DG g) w w') {b o : Nat} {v : Value} (h : w.cell? ⟨b, o, none⟩ = some v) (hb : b ≠ g) : w'.cell? ⟨b, o, none⟩ = some v := by
  have hlt := World.block_lt_of_cell? w _ h
  have h1 : w.heap[b]? = some w.heap[b] := Array.getElem?_eq_getElem hlt
  have h2 := hx.blk h1 hb
  have e : w'.heap[b]? = w.heap[b]? := h2.trans h1.symm
  unfold World.cell? at h ⊢
  simpa [e] using h
theorem SlN.exc {g : Nat} {w w' : World} {A : Option Addr} {c : Nat} {bs : List UInt8} (h : SlN g w A c bs) (hx : Exc (DG g) w w') : SlN g w' A c bs := by
  refine ⟨⟨fun hn => ?_, h.sl.len, h.sl.le, h.sl.cap⟩, h.ne⟩
  obtain ⟨b, off, hA, hc⟩ := h.sl.rd hn
  exact ⟨b, off, hA, fun i hi => exc_cell hx (hc i hi) (h.ne hn _ hA)⟩
/-- The row that is sorted. -/
structure SR (B g cap : Nat) (d : Array Fr) (w : World) : Prop where
  own : w.ownsRow B 32 3 (.slice (some ⟨g, 0, none⟩) d.size cap) d.size (d.toList.flatMap c3)
  lo : ∀ i : Nat, i < d.size → SlN g w d[i]!.lA d[i]!.lc d[i]!.lo
theorem flatN {α : Type} {f : α → List Value} {n : Nat} (hf : ∀ d, (f d).length = n) : ∀ (ds : List α) (k j : Nat) (d : α), ds[k]? = some d → j < n → (ds.flatMap f)[k * n + j]? = (f d)[j]?
  | [], k, j, d, h, _ => by simp at h
  | e :: ds, 0, j, d, h, hj => by
    simp only [List.getElem?_cons_zero, Option.some.injEq] at h
    subst h
    rw [List.flatMap_cons, Nat.zero_mul, Nat.zero_add, List.getElem?_append_left (by rw [hf]; exact hj)]
  | e :: ds, k + 1, j, d, h, hj => by
    simp only [List.getElem?_cons_succ] at h
    rw [List.flatMap_cons, List.getElem?_append_right (by rw [hf, Nat.add_mul]; omega), hf, show (k + 1) * n + j - n = k * n + j by rw [Nat.add_mul]; omega]
    exact flatN hf ds k j d h hj
theorem flat_put : ∀ (L : List Fr) (k : Nat) (y : Fr), k < L.length → (L.flatMap c3).take (k * 3) ++ c3 y ++ (L.flatMap c3).drop ((k + 1) * 3) = (L.set k y).flatMap c3
  | [], k, y, h => by simp at h
  | x :: L, 0, y, h => by simp [List.flatMap_cons]
  | x :: L, k + 1, y, h => by
    have ih := flat_put L k y (by simpa using h)
    rw [List.set_cons_succ, List.flatMap_cons, List.flatMap_cons, ← ih]
    have e1 : (c3 x ++ L.flatMap c3).take ((k + 1) * 3) = c3 x ++ (L.flatMap c3).take (k * 3) := by
      rw [show (k + 1) * 3 = (c3 x).length + k * 3 by simp; omega, List.take_length_add_append]
    have e2 : (c3 x ++ L.flatMap c3).drop ((k + 1 + 1) * 3) = (L.flatMap c3).drop ((k + 1) * 3) := by
      rw [show (k + 1 + 1) * 3 = (c3 x).length + (k + 1) * 3 by simp; omega, List.drop_length_add_append]
    rw [e1, e2]
    simp only [List.append_assoc]
section
variable {B g cap : Nat} {d : Array Fr} {w w' : World}
theorem SR.cell (h : SR B g cap d w) {i j : Nat} (hi : i < d.size) (hj : j < 3) : w.cell? ⟨g, i * 3 + j, none⟩ = (c3 d[i]!)[j]? := by
  rw [World.ownsRow.cellAt h.own (i * 3 + j) (by omega)]
  refine flatN (f := c3) (n := 3) (fun _ => rfl) d.toList i j _ ?_ hj
  rw [Array.getElem?_toList, Array.getElem?_eq_getElem hi, getElem!_pos d i hi]
theorem SR.c0 (h : SR B g cap d w) {i : Nat} (hi : i < d.size) : w.cell? ⟨g, i * 3, none⟩ = some (.slice d[i]!.lA d[i]!.lo.length d[i]!.lc) := h.cell hi (j := 0) (by decide)
theorem SR.c1 (h : SR B g cap d w) {i : Nat} (hi : i < d.size) : w.cell? ⟨g, i * 3 + 1, none⟩ = some (.slice d[i]!.hA d[i]!.hi.length d[i]!.hc) := h.cell hi (j := 1) (by decide)
theorem SR.c2 (h : SR B g cap d w) {i : Nat} (hi : i < d.size) : w.cell? ⟨g, i * 3 + 2, none⟩ = some (.bool d[i]!.op) := h.cell hi (j := 2) (by decide)
theorem SR.ext (h : SR B g cap d w) (he : Ext w w') : SR B g cap d w' := ⟨own_ext h.own he, fun i hi => (h.lo i hi).exc (Exc.of_ext he)⟩
theorem SR.capd (h : SR B g cap d w) : d.size ≤ cap := by
  rcases h.own.2 with ⟨hv, h0⟩ | ⟨g', cap', cur, hv, hb, hg, hle, hm, hs, ht⟩
  · cases hv
  · injection hv with _ _ hc
    subst hc
    exact hle
theorem SR.put (h : SR B g cap d w) {X : Nat} (hX : X < d.size) {f : Fr} (hf : SlN g w f.lA f.lc f.lo) (ho : w'.ownsRow B 32 3 (.slice (some ⟨g, 0, none⟩) d.size cap) d.size ((d.toList.flatMap c3).take (X * 3) ++ c3 f ++ (d.toList.flatMap c3).drop ((X + 1) * 3)))
    (hg : w.grownBy w' (some g)) : SR B g cap (d.setIfInBounds X f) w' := by
  have hx : Exc (DG g) w w' := Exc.of_only hg (fun _ _ => rfl)
  refine ⟨?_, fun i hi => ?_⟩
  · rw [flat_put _ _ _ (by simpa using hX)] at ho
    simpa using ho
  · have hi' : i < d.size := by simpa using hi
    have e : (d.setIfInBounds X f)[i]! = if X = i then f else d[i]! := by
      rw [getElem!_pos _ i hi, Array.getElem_setIfInBounds]
      · split
        · rfl
        · rw [getElem!_pos d i hi']
    rw [e]
    split
    · exact hf.exc hx
    · exact (h.lo i hi').exc hx
end
theorem swo_ltF : SWO ltF where
  irrefl := fun x => by simp [ltF, cmpB_self]
  trans := fun x y z h1 h2 => by
    simp only [ltF, decide_eq_true_eq] at h1 h2 ⊢
    exact LtB.trans (lt_iff.1 h1) (lt_iff.1 h2)
  ntrans := fun x y z h1 h2 => by
    simp only [ltF, decide_eq_false_iff_not] at h1 h2 ⊢
    intro h3
    rcases (LtB.not.1 h1).or with h4 | h4
    · exact h2 (LtB.trans h4 h3)
    · rw [h4] at h2
      exact h2 h3
end Go.Proofs.Ytijlaknfagpglaa
