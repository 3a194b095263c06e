/- Layer 5: arguments of types []Run, []int opened. No condition. -/
import Derived.Test.YtffapgemacbdjaaRows
import Derived.Test.YtffapgemacbdjaaArgs
import Derived.Test.YtffapgemacbdjaaRarg
import Derived.Lib.SmallJoins
import Derived.Deep.Slices
import Derived.Deep.Fields
namespace Go.Proofs.Ytffapgemacbdjaa
set_option linter.unusedVariables false
open Go.ChangeShapes Go.WideShapes Go.ChangeAt Go.RowKit Go.Joins Go.Deep
theorem fields_of_trodR {H : Type} {enc : TypeId × Value → H} {W : World} {base : Nat} {sp : Nat → Bool} {held : Bool} {t : TypeId} {fs : Array Field} {fuel : Nat} {cs : List Value} {x : DataW H × List MemPlace} (ht : Try.prog.underlying t = some (.struct fs)) (hone : oneCellFields Try.prog fs = true) (hC : Try.prog.cellsOf t = fs.size)
    (h : DataW.trod enc Try.prog W base sp held fuel t cs = some x) : ∃ (ys : List (DataW H × List MemPlace)) (n : Nat), x.1 = .agg (ys.map (·.1)) ∧ cs.length = fs.size ∧ ys.length = fs.size ∧
      ∀ (j : Nat) (f : Field), fs[j]? = some f → ∃ v y, cs[j]? = some v ∧ ys[j]? = some y ∧ DataW.trod enc Try.prog W base sp held n f.type [v] = some y := by
  obtain ⟨ys, n, _, hx, hl, hy, hg⟩ := DataW.trod_struct ht h
  refine ⟨ys, n, by rw [hx], by rw [hl, hC], hy, fun j f hj => ?_⟩
  obtain ⟨ho, hk⟩ := hone_of hone j f hj
  have hj1 : j < fs.size := (Array.getElem?_eq_some_iff.1 hj).1
  have h1 := hg j f hj
  rw [ho, hk, List.drop_eq_getElem_cons (by rw [hl, hC]; exact hj1)] at h1
  exact ⟨_, _, List.getElem?_eq_getElem (by rw [hl, hC]; exact hj1), List.getElem?_eq_getElem (by rw [hy]; exact hj1), h1.trans (List.getElem?_eq_getElem (by rw [hy]; exact hj1))⟩
theorem cellsRn : Try.prog.cellsOf 26 = 2 := by kernel_rfl
theorem bytesRn : Try.prog.bytesOf 26 = 16 := by kernel_rfl
theorem i64_of_wfR {n : Int} (h : (Lit.int .i64 n).wf = true) : -9223372036854775808 ≤ n ∧ n ≤ 9223372036854775807 := by
  simp [Lit.wf] at h
  have e1 : IntKind.i64.min = -9223372036854775808 := by decide
  have e2 : IntKind.i64.max = 9223372036854775807 := by decide
  omega
/-- The cells of a run that has come in. -/
theorem run_of_cells {H : Type} {enc : TypeId × Value → H} {W : World} {n : Nat} {cs : List Value} {x : DataW H × List MemPlace} (h : DataW.trod enc Try.prog W 0 (fun _ => true) true n 26 cs = some x) : ∃ r : Rn, cs = [.int .i64 r.lo, .int .i64 r.hi] ∧ Bdi r := by
  obtain ⟨ys, m, hx, hl, hy, hf⟩ := fields_of_trodR Try.underlying26 (by kernel_rfl) cellsRn h
  obtain ⟨v0, y0, c0, e0, t0⟩ := hf 0 _ rfl
  obtain ⟨v1, y1, c1, e1, t1⟩ := hf 1 _ rfl
  match cs, hl, c0, c1 with
  | [_, _], _, rfl, rfl =>
  obtain ⟨a0, h0, d0, g0⟩ := DataW.trod_int Try.underlying3 t0
  obtain ⟨a1, h1, d1, g1⟩ := DataW.trod_int Try.underlying3 t1
  injection h0 with h0 _
  injection h1 with h1 _
  subst h0 h1
  exact ⟨⟨a0, a1⟩, rfl, i64_of_wfR g0, i64_of_wfR g1⟩
/-- A row of runs that has come in. -/
theorem rns_of_trod {H : Type} {enc : TypeId × Value → H} {W : World} {n : Nat} {v : Value} {y : DataW H × List MemPlace} (h : DataW.trod enc Try.prog W 0 (fun _ => true) true n 22 [v] = some y) : ∃ (A : Option Addr) (c : Nat) (l : List Rn), v = .slice A l.length c ∧ RL W A c l := by
  rcases open_slice Try.underlying22 h with ⟨hcs, _⟩ | ⟨a, len, cap, m, q, D, Pl, hcs, _, hl, hm, hmm, hx, hi⟩
  · injection hcs with hcs _
    subst hcs
    exact ⟨none, 0, [], rfl, ⟨fun h => absurd h (by simp), by simp, by decide, fun r h => by cases h⟩⟩
  · injection hcs with hcs _
    subst hcs
    simp only [if_true] at hmm
    subst hmm
    have hit : ∀ i, i < len → ∃ x : Rn, W.cells? 0 (a.add (i * 2)) 2 = some [.int .i64 x.lo, .int .i64 x.hi] ∧ Bdi x := fun i hil => by
      obtain ⟨cs, hc, ht⟩ := hi i (by omega)
      rw [cellsRn] at hc
      obtain ⟨x, rfl, s1⟩ := run_of_cells ht
      exact ⟨x, hc, s1⟩
    let f : Nat → Rn := fun i => if hil : i < len then (hit i hil).choose else ⟨0, 0⟩
    refine ⟨some a, m, (List.range len).map f, by simp, ⟨fun hn => ?_, by simpa using hl, by simp [maxLen] at hm; omega, fun x hx => ?_⟩⟩
    · have hn0 : 0 < len := by simpa using hn
      obtain ⟨b, off, spot⟩ := a
      have hspot : spot = none := by
        obtain ⟨_, hc, _⟩ := hit 0 hn0
        obtain ⟨_, _, hat⟩ := World.cells?_some hc
        have := hat 0 (by decide)
        simpa [Addr.add] using World.cell?_spot this
      subst hspot
      refine ⟨b, off, rfl, fun i x hx => ?_⟩
      have hil : i < len := by
        have := (List.getElem?_eq_some_iff.1 hx).1
        simpa using this
      obtain rfl : f i = x := by
        rw [List.getElem?_map, List.getElem?_range hil] at hx
        simpa using hx
      obtain ⟨hc, s1⟩ := (hit i hil).choose_spec
      have hfi : f i = (hit i hil).choose := by simp only [f, hil, dif_pos]
      rw [hfi]
      obtain ⟨_, _, hat⟩ := World.cells?_some hc
      have a0 := hat 0 (by decide)
      have a1 := hat 1 (by decide)
      rw [add_add, Addr.add_lit, ← Nat.add_assoc] at a0 a1
      exact ⟨by simpa using a0, by simpa using a1⟩
    · obtain ⟨i, hi1, rfl⟩ := List.mem_map.1 hx
      have hil : i < len := by simpa using hi1
      have hfi : f i = (hit i hil).choose := by simp only [f, hil, dif_pos]
      rw [hfi]
      exact (hit i hil).choose_spec.2
/-- A row of ints that has come in. -/
theorem ints_of_trod {H : Type} {enc : TypeId × Value → H} {W : World} {a0 : Option Addr} {len0 cap0 : Nat} {d : DataW H} {p : List MemPlace} (h0 : DataW.Trod enc Try.prog W 0 (fun _ => true) true 23 (.slice a0 len0 cap0) d p) :
    ∃ zs : List Int, len0 = zs.length ∧ IL W a0 cap0 zs := by
  obtain ⟨fuel, hf⟩ := h0
  rcases open_ints Try.underlying23 Try.underlying3 (by kernel_rfl) hf with ⟨hcs, hx⟩ | ⟨x, l, c, zs, hcs, _, hl, hm, hz, hx, hcell, hwz⟩
  · simp [Value.cells] at hcs
    obtain ⟨rfl, rfl, rfl⟩ := hcs
    exact ⟨[], rfl, ⟨fun h => absurd h (by simp), by simp, by omega, fun r h => by cases h⟩⟩
  · simp [Value.cells] at hcs
    obtain ⟨rfl, rfl, rfl⟩ := hcs
    simp only [if_true] at hz
    have hlt : (zs.take len0).length = len0 := by simp; omega
    refine ⟨zs.take len0, hlt.symm, ⟨fun hn => ?_, by omega, by simpa [maxLen] using hm, fun z hz2 => i64_of_wfR (hwz z (List.mem_of_mem_take hz2))⟩⟩
    obtain ⟨b, off, spot⟩ := x
    have hspot : spot = none := by
      have := hcell 0 (by omega)
      simpa [Addr.add] using World.cell?_spot this
    subst hspot
    refine ⟨b, off, rfl, fun i z hi => ?_⟩
    have hi2 : i < len0 := by rw [← hlt]; exact (List.getElem?_eq_some_iff.1 hi).1
    have := hcell i (by omega)
    have e : (⟨b, off, none⟩ : Addr).add i = ⟨b, off + i, none⟩ := by unfold Addr.add; split <;> simp_all
    rw [e] at this
    rw [this]
    rw [List.getElem?_take, if_pos hi2] at hi
    rw [List.getD_eq_getElem?_getD, hi]
    rfl
end Go.Proofs.Ytffapgemacbdjaa
