/- An argument of type []api.Range opened. No condition. -/
import Derived.Test.YtijlaknfagpglaaArgsr
import Derived.Test.YtijlaknfagpglaaCovm
import Derived.Deep.Slices
import Derived.Deep.Fields
namespace Go.Proofs.Ytijlaknfagpglaa
set_option linter.unusedVariables false
open Go.ChangeShapes Go.WideShapes Go.ChangeAt Go.RowKit Go.Joins Go.Deep
/-- The fields of a struct of one-cell fields, read one by one. -/
theorem fields_of_trod {H : Type} {enc : TypeId × Value → H} {W : World} {base : Nat} {sp : Nat → Bool} {held : Bool} {t : TypeId} {fs : Array Field} {fuel : Nat} {cs : List Value} {x : DataW H × List MemPlace} (ht : Try.prog.underlying t = some (.struct fs)) (hone : oneCellFields Try.prog fs = true) (hC : Try.prog.cellsOf t = fs.size)
    (h : DataW.trod enc Try.prog W base sp held fuel t cs = some x) : ∃ (ys : List (DataW H × List MemPlace)) (n : Nat), x.1 = .agg (ys.map (·.1)) ∧ cs.length = fs.size ∧ ys.length = fs.size ∧
      ∀ (j : Nat) (f : Field), fs[j]? = some f → ∃ v y, cs[j]? = some v ∧ ys[j]? = some y ∧ DataW.trod enc Try.prog W base sp held n f.type [v] = some y := by
  obtain ⟨ys, n, _, hx, hl, hy, hg⟩ := DataW.trod_struct ht h
  refine ⟨ys, n, by rw [hx], by rw [hl, hC], hy, fun j f hj => ?_⟩
  obtain ⟨ho, hk⟩ := hone_of hone j f hj
  have hj1 : j < fs.size := (Array.getElem?_eq_some_iff.1 hj).1
  have h1 := hg j f hj
  rw [ho, hk, List.drop_eq_getElem_cons (by rw [hl, hC]; exact hj1)] at h1
  exact ⟨_, _, List.getElem?_eq_getElem (by rw [hl, hC]; exact hj1), List.getElem?_eq_getElem (by rw [hy]; exact hj1), h1.trans (List.getElem?_eq_getElem (by rw [hy]; exact hj1))⟩
theorem weightsAll_of_mem {H : Type} {P : Program} {e : TypeId} {d : DataW H} : ∀ {l : List (DataW H)}, d ∈ l → ∀ n ∈ d.weights P e, n ∈ DataW.weightsAll P e l
  | [], h, _, _ => by cases h
  | x :: l, h, n, hn => by
    simp only [DataW.weightsAll, List.mem_append]
    rcases List.mem_cons.1 h with rfl | h
    · exact .inl hn
    · exact .inr (weightsAll_of_mem h n hn)
theorem bytesRg : Try.prog.bytesOf 32 = 56 := by kernel_rfl
/-- The cells of a range that has come in. -/
theorem fr_of_cells {H : Type} {enc : TypeId × Value → H} {W : World} {n : Nat} {cs : List Value} {x : DataW H × List MemPlace} (h : DataW.trod enc Try.prog W 0 (fun _ => true) true n 32 cs = some x)
    (hz : ∀ k ∈ x.1.weights Try.prog 32, (decide (k ≤ reachBytes)) = true) : ∃ f : Fr, cs = [.slice f.lA f.lo.length f.lc, .slice f.hA f.hi.length f.hc, .bool f.op] ∧ Sl W f.lA f.lc f.lo ∧ Sl W f.hA f.hc f.hi := by
  obtain ⟨ys, m, hx, hl, hy, hf⟩ := fields_of_trod Try.underlying32 (by kernel_rfl) cellsRg h
  obtain ⟨v0, y0, c0, e0, t0⟩ := hf 0 _ rfl
  obtain ⟨v1, y1, c1, e1, t1⟩ := hf 1 _ rfl
  obtain ⟨v2, y2, c2, e2, t2⟩ := hf 2 _ rfl
  match cs, hl, c0, c1, c2, ys, hy, e0, e1, e2, hx with
  | [_, _, _], _, rfl, rfl, rfl, [_, _, _], _, rfl, rfl, rfl, hx =>
  rw [hx] at hz
  obtain ⟨lA, lc, lo, rfl, s0⟩ := slv_of_trod t0 (fun k hk => hz k (by simp [DataW.weights, Try.underlying32, DataW.weightsEach]; exact .inl hk))
  obtain ⟨hA, hc, hi, rfl, s1⟩ := slv_of_trod t1 (fun k hk => hz k (by simp [DataW.weights, Try.underlying32, DataW.weightsEach]; exact .inr (.inl hk)))
  obtain ⟨b, hb, _⟩ := DataW.trod_bool Try.underlying4 t2
  injection hb with hb _
  exact ⟨⟨lA, lc, lo, hA, hc, hi, b⟩, by rw [hb], s0, s1⟩
/-- A row of ranges that has come in. -/
structure RGL (W : World) (A : Option Addr) (c : Nat) (l : List Fr) : Prop where
  row : RowR W A l
  le : l.length ≤ c
  cap : c ≤ 9223372036854775807
theorem rgs_of_trod {H : Type} {enc : TypeId × Value → H} {W : World} {n : Nat} {v : Value} {y : DataW H × List MemPlace} (h : DataW.trod enc Try.prog W 0 (fun _ => true) true n 37 [v] = some y)
    (hz : ∀ k ∈ y.1.weights Try.prog 37, (decide (k ≤ reachBytes)) = true) : ∃ (A : Option Addr) (c : Nat) (l : List Fr), v = .slice A l.length c ∧ RGL W A c l := by
  rcases open_slice Try.underlying37 h with ⟨hcs, _⟩ | ⟨a, len, cap, m, q, D, Pl, hcs, _, hl, hm, hmm, hx, hi⟩
  · injection hcs with hcs _
    subst hcs
    exact ⟨none, 0, [], rfl, ⟨fun h => absurd h (by simp), fun f h => (by cases h)⟩, by simp, by omega⟩
  · injection hcs with hcs _
    subst hcs
    rw [hx] at hz
    simp only [if_true] at hmm
    subst hmm
    have hw : ∀ k ∈ DataW.weights Try.prog 37 (.slice ((List.range len).map D) ((List.range (m - len)).map fun j => D (len + j))), (decide (k ≤ reachBytes)) = true := hz
    simp only [DataW.weights, Try.underlying37, List.mem_cons, List.mem_append, List.length_map, List.length_range, bytesRg] at hw
    have hit : ∀ i, i < len → ∃ f : Fr, W.cells? 0 (a.add (i * 3)) 3 = some [.slice f.lA f.lo.length f.lc, .slice f.hA f.hi.length f.hc, .bool f.op] ∧ Sl W f.lA f.lc f.lo ∧ Sl W f.hA f.hc f.hi := fun i hil => by
      obtain ⟨cs, hc, ht⟩ := hi i (by omega)
      rw [cellsRg] at hc
      obtain ⟨f, rfl, s1, s2⟩ := fr_of_cells ht (fun k hk => hw k (.inr (.inl (weightsAll_of_mem (List.mem_map.2 ⟨i, by simpa using hil, rfl⟩) k hk))))
      exact ⟨f, hc, s1, s2⟩
    let f : Nat → Fr := fun i => if hil : i < len then (hit i hil).choose else default
    have hf : ∀ (i : Nat) (x : Fr), ((List.range len).map f)[i]? = some x → W.cells? 0 (a.add (i * 3)) 3 = some [.slice x.lA x.lo.length x.lc, .slice x.hA x.hi.length x.hc, .bool x.op] ∧ Sl W x.lA x.lc x.lo ∧ Sl W x.hA x.hc x.hi := fun i x hx => by
      have hil : i < len := by
        have := (List.getElem?_eq_some_iff.1 hx).1
        simpa using this
      obtain rfl : f i = x := by
        rw [List.getElem?_map, List.getElem?_range hil] at hx
        simpa using hx
      have hfi : f i = (hit i hil).choose := by simp only [f, hil, dif_pos]
      rw [hfi]
      exact (hit i hil).choose_spec
    refine ⟨some a, m, (List.range len).map f, by simp, ⟨fun hn => ?_, fun x hx => ?_⟩, by simpa using hl, by simp [maxLen] at hm; omega⟩
    · have hn0 : 0 < len := by simpa using hn
      obtain ⟨b, off, spot⟩ := a
      have hspot : spot = none := by
        obtain ⟨_, hc, _⟩ := hit 0 hn0
        obtain ⟨_, _, hat⟩ := World.cells?_some hc
        have := hat 0 (by decide)
        simpa [Addr.add] using World.cell?_spot this
      subst hspot
      refine ⟨b, off, rfl, fun i x hx => ?_⟩
      obtain ⟨hc, _⟩ := hf i x hx
      obtain ⟨_, _, hat⟩ := World.cells?_some hc
      have hcell : ∀ j, j < 3 → W.cell? ⟨b, off + i * 3 + j, none⟩ = [Value.slice x.lA x.lo.length x.lc, .slice x.hA x.hi.length x.hc, .bool x.op][j]? := fun j hj => by
        have := hat j hj
        rwa [add_add, Addr.add_lit, ← Nat.add_assoc] at this
      exact ⟨hcell 0 (by omega), hcell 1 (by omega), hcell 2 (by omega)⟩
    · obtain ⟨i, hi, rfl⟩ := List.mem_iff_getElem.1 hx
      exact (hf i _ (List.getElem?_eq_getElem hi)).2
end Go.Proofs.Ytijlaknfagpglaa
