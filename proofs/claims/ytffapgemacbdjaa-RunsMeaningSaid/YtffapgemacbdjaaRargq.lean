/- Layer 5: arguments of type []Step opened. No condition. -/
import Derived.Test.YtffapgemacbdjaaRows
import Derived.Test.YtffapgemacbdjaaArgs
import Derived.Test.YtffapgemacbdjaaRargf
import Derived.Test.YtffapgemacbdjaaNrmean
import Derived.Lib.SmallJoins
import Derived.Deep.Slices
import Derived.Deep.Fields
namespace Go.Proofs.Ytffapgemacbdjaa
set_option linter.unusedVariables false
open Go.ChangeShapes Go.WideShapes Go.ChangeAt Go.RowKit Go.Joins Go.Deep
theorem cellsStp : Try.prog.cellsOf 40 = 3 := by kernel_rfl
theorem u8_of_wfR {n : Int} (h : (Lit.int .u8 n).wf = true) : 0 ≤ n ∧ n ≤ 255 := by
  simp [Lit.wf] at h
  have e1 : IntKind.u8.min = 0 := by decide
  have e2 : IntKind.u8.max = 255 := by decide
  omega
/-- The cells of a step that has come in. -/
theorem stp_of_cells {H : Type} {enc : TypeId × Value → H} {W : World} {n : Nat} {cs : List Value} {x : DataW H × List MemPlace} (h : DataW.trod enc Try.prog W 0 (fun _ => true) true n 40 cs = some x) : ∃ r : Stp, cs = [.int .u8 r.lo, .int .u8 r.hi, .bool r.gone] ∧ BdS r := by
  obtain ⟨ys, m, hx, hl, hy, hf⟩ := fields_of_trodR Try.underlying40 (by kernel_rfl) cellsStp h
  obtain ⟨v0, y0, c0, e0, t0⟩ := hf 0 _ rfl
  obtain ⟨v1, y1, c1, e1, t1⟩ := hf 1 _ rfl
  obtain ⟨v2, y2, c2, e2, t2⟩ := hf 2 _ rfl
  match cs, hl, c0, c1, c2 with
  | [_, _, _], _, rfl, rfl, rfl =>
  obtain ⟨a0, h0, d0, g0⟩ := DataW.trod_int Try.underlying5 t0
  obtain ⟨a1, h1, d1, g1⟩ := DataW.trod_int Try.underlying5 t1
  obtain ⟨a2, h2, _⟩ := DataW.trod_bool Try.underlying4 t2
  injection h0 with h0 _
  injection h1 with h1 _
  injection h2 with h2 _
  subst h0 h1 h2
  exact ⟨⟨a0, a1, a2⟩, rfl, u8_of_wfR g0, u8_of_wfR g1⟩
/-- A row of steps that has come in. -/
theorem stps_of_trod {H : Type} {enc : TypeId × Value → H} {W : World} {n : Nat} {v : Value} {y : DataW H × List MemPlace} (h : DataW.trod enc Try.prog W 0 (fun _ => true) true n 35 [v] = some y) : ∃ (A : Option Addr) (c : Nat) (l : List Stp), v = .slice A l.length c ∧ STL W A c l := by
  rcases open_slice Try.underlying35 h with ⟨hcs, _⟩ | ⟨a, len, cap, m, q, D, Pl, hcs, _, hl, hm, hmm, hx, hi⟩
  · injection hcs with hcs _
    subst hcs
    exact ⟨none, 0, [], rfl, ⟨fun h => absurd h (by simp), by simp, by decide, fun r h => by cases h⟩⟩
  · injection hcs with hcs _
    subst hcs
    simp only [if_true] at hmm
    subst hmm
    have hit : ∀ i, i < len → ∃ x : Stp, W.cells? 0 (a.add (i * 3)) 3 = some [.int .u8 x.lo, .int .u8 x.hi, .bool x.gone] ∧ BdS x := fun i hil => by
      obtain ⟨cs, hc, ht⟩ := hi i (by omega)
      rw [cellsStp] at hc
      obtain ⟨x, rfl, s1⟩ := stp_of_cells ht
      exact ⟨x, hc, s1⟩
    let f : Nat → Stp := fun i => if hil : i < len then (hit i hil).choose else ⟨0, 0, false⟩
    refine ⟨some a, m, (List.range len).map f, by simp, ⟨fun hn => ?_, by simpa using hl, by simp [maxLen] at hm; omega, fun x hx => ?_⟩⟩
    · have hn0 : 0 < len := by simpa using hn
      obtain ⟨b, off, spot⟩ := a
      have hspot : spot = none := by
        obtain ⟨_, hc, _⟩ := hit 0 hn0
        obtain ⟨_, _, hat⟩ := World.cells?_some hc
        have := hat 0 (by decide)
        simpa [Addr.add] using World.cell?_spot this
      subst hspot
      refine ⟨b, off, rfl, fun i x hx => ?_⟩
      have hil : i < len := by
        have := (List.getElem?_eq_some_iff.1 hx).1
        simpa using this
      obtain rfl : f i = x := by
        rw [List.getElem?_map, List.getElem?_range hil] at hx
        simpa using hx
      obtain ⟨hc, s1⟩ := (hit i hil).choose_spec
      have hfi : f i = (hit i hil).choose := by simp only [f, hil, dif_pos]
      rw [hfi]
      obtain ⟨_, _, hat⟩ := World.cells?_some hc
      have a0 := hat 0 (by decide)
      have a1 := hat 1 (by decide)
      have a2 := hat 2 (by decide)
      rw [add_add, Addr.add_lit, ← Nat.add_assoc] at a0 a1 a2
      exact ⟨by simpa using a0, by simpa using a1, by simpa using a2⟩
    · obtain ⟨i, hi1, rfl⟩ := List.mem_map.1 hx
      have hil : i < len := by simpa using hi1
      have hfi : f i = (hit i hil).choose := by simp only [f, hil, dif_pos]
      rw [hfi]
      exact (hit i hil).choose_spec.2
end Go.Proofs.Ytffapgemacbdjaa
