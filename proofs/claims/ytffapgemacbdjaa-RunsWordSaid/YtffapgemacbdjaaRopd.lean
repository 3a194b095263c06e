/- Layer 5: arguments of type []Op opened. No condition. -/
import Derived.Test.YtffapgemacbdjaaRargf
import Derived.Test.YtffapgemacbdjaaRpld
namespace Go.Proofs.Ytffapgemacbdjaa
set_option linter.unusedVariables false
open Go.ChangeShapes Go.WideShapes Go.ChangeAt Go.RowKit Go.Joins Go.Deep
theorem cellsRnO : Try.prog.cellsOf 26 = 2 := by kernel_rfl
theorem cellsOpO : Try.prog.cellsOf 89 = 7 := by kernel_rfl
theorem lt_of_cell {w : World} {b off : Nat} {v : Value} (h : w.cell? ⟨b, off, none⟩ = some v) : b < w.heap.size := by
  by_cases hb : b < w.heap.size
  · exact hb
  · exfalso
    have : w.heap[b]? = none := Array.getElem?_eq_none (by omega)
    simp [World.cell?, this] at h
/-- The cells of a run that has come in. -/
theorem runO_of_cells {H : Type} {enc : TypeId × Value → H} {W : World} {n : Nat} {cs : List Value} {x : DataW H × List MemPlace} (h : DataW.trod enc Try.prog W 0 (fun _ => true) true n 26 cs = some x) : ∃ r : Rn, cs = [.int .i64 r.lo, .int .i64 r.hi] := by
  obtain ⟨ys, m, hx, hl, hy, hf⟩ := fields_of_trodR Try.underlying26 (by kernel_rfl) cellsRnO h
  obtain ⟨v0, y0, c0, e0, t0⟩ := hf 0 _ rfl
  obtain ⟨v1, y1, c1, e1, t1⟩ := hf 1 _ rfl
  match cs, hl, c0, c1 with
  | [_, _], _, rfl, rfl =>
  obtain ⟨a0, h0, d0, g0⟩ := DataW.trod_int Try.underlying3 t0
  obtain ⟨a1, h1, d1, g1⟩ := DataW.trod_int Try.underlying3 t1
  injection h0 with h0 _
  injection h1 with h1 _
  subst h0 h1
  exact ⟨⟨a0, a1⟩, rfl⟩
/-- A row of runs that has come in. -/
theorem rnsO_of_trod {H : Type} {enc : TypeId × Value → H} {W : World} {n : Nat} {v : Value} {y : DataW H × List MemPlace} (h : DataW.trod enc Try.prog W 0 (fun _ => true) true n 22 [v] = some y) : ∃ (A : Option Addr) (c : Nat) (l : List Rn), v = .slice A l.length c ∧ (0 < l.length → ∃ b off, A = some ⟨b, off, none⟩ ∧ b < W.heap.size ∧ ∀ i r, l[i]? = some r → W.cell? ⟨b, off + i * 2, none⟩ = some (.int .i64 r.lo) ∧ W.cell? ⟨b, off + i * 2 + 1, none⟩ = some (.int .i64 r.hi)) ∧ l.length ≤ c ∧ c ≤ 9223372036854775807 := by
  rcases open_slice Try.underlying22 h with ⟨hcs, _⟩ | ⟨a, len, cap, m, q, D, Pl, hcs, _, hl, hm, hmm, hx, hi⟩
  · injection hcs with hcs _
    subst hcs
    exact ⟨none, 0, [], rfl, fun h => absurd h (by simp), by simp, by decide⟩
  · injection hcs with hcs _
    subst hcs
    simp only [if_true] at hmm
    subst hmm
    have hit : ∀ i, i < len → ∃ x : Rn, W.cells? 0 (a.add (i * 2)) 2 = some [.int .i64 x.lo, .int .i64 x.hi] := fun i hil => by
      obtain ⟨cs, hc, ht⟩ := hi i (by omega)
      rw [cellsRnO] at hc
      obtain ⟨x, rfl⟩ := runO_of_cells ht
      exact ⟨x, hc⟩
    let f : Nat → Rn := fun i => if hil : i < len then (hit i hil).choose else ⟨0, 0⟩
    refine ⟨some a, m, (List.range len).map f, by simp, fun hn => ?_, by simpa using hl, by simp [maxLen] at hm; omega⟩
    have hn0 : 0 < len := by simpa using hn
    obtain ⟨b, off, spot⟩ := a
    have hspot : spot = none := by
      obtain ⟨_, hc⟩ := hit 0 hn0
      obtain ⟨_, _, hat⟩ := World.cells?_some hc
      have := hat 0 (by decide)
      simpa [Addr.add] using World.cell?_spot this
    subst hspot
    have hcell : ∀ i r, ((List.range len).map f)[i]? = some r → W.cell? ⟨b, off + i * 2, none⟩ = some (.int .i64 r.lo) ∧ W.cell? ⟨b, off + i * 2 + 1, none⟩ = some (.int .i64 r.hi) := fun i x hx => by
      have hil : i < len := by
        have := (List.getElem?_eq_some_iff.1 hx).1
        simpa using this
      obtain rfl : f i = x := by
        rw [List.getElem?_map, List.getElem?_range hil] at hx
        simpa using hx
      have hc := (hit i hil).choose_spec
      have hfi : f i = (hit i hil).choose := by simp only [f, hil, dif_pos]
      rw [hfi]
      obtain ⟨_, _, hat⟩ := World.cells?_some hc
      have a0 := hat 0 (by decide)
      have a1 := hat 1 (by decide)
      rw [add_add, Addr.add_lit, ← Nat.add_assoc] at a0 a1
      exact ⟨by simpa using a0, by simpa using a1⟩
    refine ⟨b, off, rfl, ?_, hcell⟩
    obtain ⟨r0, hr0⟩ : ∃ r, ((List.range len).map f)[0]? = some r := ⟨_, List.getElem?_eq_getElem (by simpa using hn0)⟩
    exact lt_of_cell (hcell 0 r0 hr0).1
/-- The cells of a call of the script that has come in. -/
theorem op_of_cells {H : Type} {enc : TypeId × Value → H} {W : World} {n : Nat} {cs : List Value} {x : DataW H × List MemPlace} (h : DataW.trod enc Try.prog W 0 (fun _ => true) true n 89 cs = some x) : ∃ o : Opn, cs = o.cells.toList ∧ o.In W.heap.size W := by
  obtain ⟨ys, m, hx, hl, hy, hf⟩ := fields_of_trodR Try.underlying89 (by kernel_rfl) cellsOpO h
  obtain ⟨v0, y0, c0, e0, t0⟩ := hf 0 _ rfl
  obtain ⟨v1, y1, c1, e1, t1⟩ := hf 1 _ rfl
  obtain ⟨v2, y2, c2, e2, t2⟩ := hf 2 _ rfl
  obtain ⟨v3, y3, c3, e3, t3⟩ := hf 3 _ rfl
  obtain ⟨v4, y4, c4, e4, t4⟩ := hf 4 _ rfl
  obtain ⟨v5, y5, c5, e5, t5⟩ := hf 5 _ rfl
  obtain ⟨v6, y6, c6, e6, t6⟩ := hf 6 _ rfl
  match cs, hl, c0, c1, c2, c3, c4, c5, c6 with
  | [_, _, _, _, _, _, _], _, rfl, rfl, rfl, rfl, rfl, rfl, rfl =>
  obtain ⟨a0, h0, d0, g0⟩ := DataW.trod_int Try.underlying3 t0
  obtain ⟨a1, h1, d1, g1⟩ := DataW.trod_int Try.underlying3 t1
  obtain ⟨a2, h2, d2, g2⟩ := DataW.trod_int Try.underlying3 t2
  obtain ⟨a3, h3, d3, g3⟩ := DataW.trod_int Try.underlying3 t3
  obtain ⟨a4, h4, d4, g4⟩ := DataW.trod_int Try.underlying3 t4
  obtain ⟨a5, h5, d5, g5⟩ := DataW.trod_int Try.underlying3 t5
  obtain ⟨A, c, l, h6, hrd, hle, hcap⟩ := rnsO_of_trod t6
  injection h0 with h0 _
  injection h1 with h1 _
  injection h2 with h2 _
  injection h3 with h3 _
  injection h4 with h4 _
  injection h5 with h5 _
  subst h0 h1 h2 h3 h4 h5 h6
  exact ⟨⟨a0, a1, a2, a3, a4, a5, A, c, l⟩, rfl, ⟨hrd, hle, hcap⟩⟩
/-- A row of calls that has come in. -/
theorem ops_of_trod {H : Type} {enc : TypeId × Value → H} {W : World} {n : Nat} {v : Value} {y : DataW H × List MemPlace} (h : DataW.trod enc Try.prog W 0 (fun _ => true) true n 44 [v] = some y) : ∃ (A : Option Addr) (c : Nat) (l : List Opn), v = .slice A l.length c ∧ OPL W A c l := by
  rcases open_slice Try.underlying44 h with ⟨hcs, _⟩ | ⟨a, len, cap, m, q, D, Pl, hcs, _, hl, hm, hmm, hx, hi⟩
  · injection hcs with hcs _
    subst hcs
    exact ⟨none, 0, [], rfl, ⟨fun h => absurd h (by simp), by simp, by decide, fun r h => (by cases h)⟩⟩
  · injection hcs with hcs _
    subst hcs
    simp only [if_true] at hmm
    subst hmm
    have hit : ∀ i, i < len → ∃ x : Opn, W.cells? 0 (a.add (i * 7)) 7 = some x.cells.toList ∧ x.In W.heap.size W := fun i hil => by
      obtain ⟨cs, hc, ht⟩ := hi i (by omega)
      rw [cellsOpO] at hc
      obtain ⟨x, rfl, s1⟩ := op_of_cells ht
      exact ⟨x, hc, s1⟩
    let f : Nat → Opn := fun i => if hil : i < len then (hit i hil).choose else ⟨0, 0, 0, 0, 0, 0, none, 0, []⟩
    refine ⟨some a, m, (List.range len).map f, by simp, ⟨fun hn => ?_, by simpa using hl, by simp [maxLen] at hm; omega, fun x hx => ?_⟩⟩
    · have hn0 : 0 < len := by simpa using hn
      obtain ⟨b, off, spot⟩ := a
      have hspot : spot = none := by
        obtain ⟨_, hc, _⟩ := hit 0 hn0
        obtain ⟨_, _, hat⟩ := World.cells?_some hc
        have := hat 0 (by decide)
        simpa [Addr.add] using World.cell?_spot this
      subst hspot
      refine ⟨b, off, rfl, fun i x hx j v hv => ?_⟩
      have hil : i < len := by
        have := (List.getElem?_eq_some_iff.1 hx).1
        simpa using this
      obtain rfl : f i = x := by
        rw [List.getElem?_map, List.getElem?_range hil] at hx
        simpa using hx
      obtain ⟨hc, s1⟩ := (hit i hil).choose_spec
      have hfi : f i = (hit i hil).choose := by simp only [f, hil, dif_pos]
      rw [hfi] at hv
      have hj : j < 7 := by
        have := (Array.getElem?_eq_some_iff.1 hv).1
        simpa [Opn.cells] using this
      obtain ⟨_, _, hat⟩ := World.cells?_some hc
      have a0 := hat j (by simpa [Opn.cells] using hj)
      rw [add_add, Addr.add_lit, ← Nat.add_assoc] at a0
      rw [a0]
      simpa using hv
    · obtain ⟨i, hi1, rfl⟩ := List.mem_map.1 hx
      have hil : i < len := by simpa using hi1
      have hfi : f i = (hit i hil).choose := by simp only [f, hil, dif_pos]
      rw [hfi]
      exact (hit i hil).choose_spec.2
end Go.Proofs.Ytffapgemacbdjaa
