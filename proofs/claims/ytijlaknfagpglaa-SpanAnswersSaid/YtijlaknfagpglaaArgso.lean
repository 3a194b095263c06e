/- An argument of type []Op of the layer's law opened. No condition. -/
import Derived.Test.YtijlaknfagpglaaArgsl
import Derived.Test.YtijlaknfagpglaaSqhi
namespace Go.Proofs.Ytijlaknfagpglaa
set_option linter.unusedVariables false
set_option linter.unusedSimpArgs false
open Go.ChangeShapes Go.WideShapes Go.ChangeAt Go.RowKit Go.Joins Go.Deep
theorem slz_of_trod {H : Type} {enc : TypeId × Value → H} {W : World} {v : Value} {y : DataW H × List MemPlace} {n : Nat} (hf : DataW.trod enc Try.prog W 0 (fun _ => true) true n 22 [v] = some y)
    (hz : ∀ k ∈ y.1.weights Try.prog 22, (decide (k ≤ reachBytes)) = true) : ∃ (A : Option Addr) (c : Nat) (bs : List UInt8), v = .slice A bs.length c ∧ Sl W A c bs ∧ smallL bs := by
  have hv : ∃ A l c, v = .slice A l c := by
    rcases open_ints Try.underlying22 Try.underlying5 (by kernel_rfl) hf with ⟨hcs, _⟩ | ⟨x, l, c, zs, hcs, _⟩
    · injection hcs with hcs _; exact ⟨_, _, _, hcs⟩
    · injection hcs with hcs _; exact ⟨_, _, _, hcs⟩
  obtain ⟨A, l, c, rfl⟩ := hv
  obtain ⟨d, p⟩ := y
  obtain ⟨bs, rfl, rd, le, _, sz⟩ := sl_of_trod (d := d) (p := p) rfl ⟨n, by simpa [Value.cells] using hf⟩
  have hr : reachBytes = 140737488351232 := by decide
  have hc : c ≤ reachBytes := by
    rcases sz with ⟨_, h⟩ | ⟨el, sp, rfl, h⟩
    · rw [h]; exact Nat.zero_le _
    · have := of_decide_eq_true (hz ((el.length + sp.length) * Try.prog.bytesOf 5) (by simp [DataW.weights, Try.underlying22]))
      rwa [bytesU8, Nat.mul_one, h] at this
  exact ⟨A, c, bs, rfl, Sl.of_size rd le hc, by unfold smallL; omega⟩
/-- The cells of a range that has come in. -/
theorem frz_of_cells {H : Type} {enc : TypeId × Value → H} {W : World} {n : Nat} {cs : List Value} {x : DataW H × List MemPlace} (h : DataW.trod enc Try.prog W 0 (fun _ => true) true n 32 cs = some x)
    (hz : ∀ k ∈ x.1.weights Try.prog 32, (decide (k ≤ reachBytes)) = true) : ∃ f : Fr, cs = [.slice f.lA f.lo.length f.lc, .slice f.hA f.hi.length f.hc, .bool f.op] ∧ (Sl W f.lA f.lc f.lo ∧ Sl W f.hA f.hc f.hi) ∧ smallL f.lo ∧ smallL f.hi := by
  obtain ⟨ys, m, hx, hl, hy, hf⟩ := fields_of_trod Try.underlying32 (by kernel_rfl) cellsRg h
  obtain ⟨v0, y0, c0, e0, t0⟩ := hf 0 _ rfl
  obtain ⟨v1, y1, c1, e1, t1⟩ := hf 1 _ rfl
  obtain ⟨v2, y2, c2, e2, t2⟩ := hf 2 _ rfl
  match cs, hl, c0, c1, c2, ys, hy, e0, e1, e2, hx with
  | [_, _, _], _, rfl, rfl, rfl, [_, _, _], _, rfl, rfl, rfl, hx =>
  rw [hx] at hz
  obtain ⟨lA, lc, lo, rfl, s0, z0⟩ := slz_of_trod t0 (fun k hk => hz k (by simp [DataW.weights, Try.underlying32, DataW.weightsEach]; exact .inl hk))
  obtain ⟨hA, hc, hi, rfl, s1, z1⟩ := slz_of_trod t1 (fun k hk => hz k (by simp [DataW.weights, Try.underlying32, DataW.weightsEach]; exact .inr (.inl hk)))
  obtain ⟨b, hb, _⟩ := DataW.trod_bool Try.underlying4 t2
  injection hb with hb _
  exact ⟨⟨lA, lc, lo, hA, hc, hi, b⟩, by rw [hb], ⟨s0, s1⟩, z0, z1⟩
theorem rgz_of_trod {H : Type} {enc : TypeId × Value → H} {W : World} {n : Nat} {v : Value} {y : DataW H × List MemPlace} (h : DataW.trod enc Try.prog W 0 (fun _ => true) true n 37 [v] = some y)
    (hz : ∀ k ∈ y.1.weights Try.prog 37, (decide (k ≤ reachBytes)) = true) : ∃ (A : Option Addr) (c : Nat) (l : List Fr), v = .slice A l.length c ∧ RGL W A c l ∧ ∀ f ∈ l, smallL f.lo ∧ smallL f.hi := by
  rcases open_slice Try.underlying37 h with ⟨hcs, _⟩ | ⟨a, len, cap, m, q, D, Pl, hcs, _, hl, hm, hmm, hx, hi⟩
  · injection hcs with hcs _
    subst hcs
    exact ⟨none, 0, [], rfl, ⟨⟨fun h => absurd h (by simp), fun f h => (by cases h)⟩, by simp, by omega⟩, fun f h => (by cases h)⟩
  · injection hcs with hcs _
    subst hcs
    rw [hx] at hz
    simp only [if_true] at hmm
    subst hmm
    have hw : ∀ k ∈ DataW.weights Try.prog 37 (.slice ((List.range len).map D) ((List.range (m - len)).map fun j => D (len + j))), (decide (k ≤ reachBytes)) = true := hz
    simp only [DataW.weights, Try.underlying37, List.mem_cons, List.mem_append, List.length_map, List.length_range, bytesRg] at hw
    have hit : ∀ i, i < len → ∃ f : Fr, W.cells? 0 (a.add (i * 3)) 3 = some [.slice f.lA f.lo.length f.lc, .slice f.hA f.hi.length f.hc, .bool f.op] ∧ (Sl W f.lA f.lc f.lo ∧ Sl W f.hA f.hc f.hi) ∧ smallL f.lo ∧ smallL f.hi := fun i hil => by
      obtain ⟨cs, hc, ht⟩ := hi i (by omega)
      rw [cellsRg] at hc
      obtain ⟨f, rfl, s1, s2⟩ := frz_of_cells ht (fun k hk => hw k (.inr (.inl (weightsAll_of_mem (List.mem_map.2 ⟨i, by simpa using hil, rfl⟩) k hk))))
      exact ⟨f, hc, s1, s2⟩
    let f : Nat → Fr := fun i => if hil : i < len then (hit i hil).choose else default
    have hf : ∀ (i : Nat) (x : Fr), ((List.range len).map f)[i]? = some x → W.cells? 0 (a.add (i * 3)) 3 = some [.slice x.lA x.lo.length x.lc, .slice x.hA x.hi.length x.hc, .bool x.op] ∧ (Sl W x.lA x.lc x.lo ∧ Sl W x.hA x.hc x.hi) ∧ smallL x.lo ∧ smallL x.hi := fun i x hx => by
      have hil : i < len := by
        have := (List.getElem?_eq_some_iff.1 hx).1
        simpa using this
      obtain rfl : f i = x := by
        rw [List.getElem?_map, List.getElem?_range hil] at hx
        simpa using hx
      have hfi : f i = (hit i hil).choose := by simp only [f, hil, dif_pos]
      rw [hfi]
      exact (hit i hil).choose_spec
    have hmem : ∀ x ∈ (List.range len).map f, (Sl W x.lA x.lc x.lo ∧ Sl W x.hA x.hc x.hi) ∧ smallL x.lo ∧ smallL x.hi := fun x hx => by
      obtain ⟨i, hi, rfl⟩ := List.mem_iff_getElem.1 hx
      exact (hf i _ (List.getElem?_eq_getElem hi)).2
    refine ⟨some a, m, (List.range len).map f, by simp, ⟨⟨fun hn => ?_, fun x hx => (hmem x hx).1⟩, by simpa using hl, by simp [maxLen] at hm; omega⟩, fun x hx => (hmem x hx).2⟩
    have hn0 : 0 < len := by simpa using hn
    obtain ⟨b, off, spot⟩ := a
    have hspot : spot = none := by
      obtain ⟨_, hc, _⟩ := hit 0 hn0
      obtain ⟨_, _, hat⟩ := World.cells?_some hc
      have := hat 0 (by decide)
      simpa [Addr.add] using World.cell?_spot this
    subst hspot
    refine ⟨b, off, rfl, fun i x hx => ?_⟩
    obtain ⟨hc, _⟩ := hf i x hx
    obtain ⟨_, _, hat⟩ := World.cells?_some hc
    have hcell : ∀ j, j < 3 → W.cell? ⟨b, off + i * 3 + j, none⟩ = [Value.slice x.lA x.lo.length x.lc, .slice x.hA x.hi.length x.hc, .bool x.op][j]? := fun j hj => by
      have := hat j hj
      rwa [add_add, Addr.add_lit, ← Nat.add_assoc] at this
    exact ⟨hcell 0 (by omega), hcell 1 (by omega), hcell 2 (by omega)⟩
theorem cellsOp : Try.prog.cellsOf 47 = 10 := by kernel_rfl
theorem bytesOp : Try.prog.bytesOf 47 = 192 := by kernel_rfl
/-- The cells of a call that has come in. -/
theorem opx_of_cells {H : Type} {enc : TypeId × Value → H} {W : World} {n : Nat} {cs : List Value} {x : DataW H × List MemPlace} (h : DataW.trod enc Try.prog W 0 (fun _ => true) true n 47 cs = some x)
    (hz : ∀ k ∈ x.1.weights Try.prog 47, (decide (k ≤ reachBytes)) = true) : ∃ o : Opn, cs = o.cs ∧ OpX W o := by
  obtain ⟨ys, m, _, hx, hl, hy, hg⟩ := DataW.trod_struct Try.underlying47 h
  rw [cellsOp] at hl
  have g0 := hg 0 _ rfl
  have g1 := hg 1 _ rfl
  have g2 := hg 2 _ rfl
  have g3 := hg 3 _ rfl
  have g4 := hg 4 _ rfl
  have g5 := hg 5 _ rfl
  clear hg h
  match cs, hl, ys, hy, g0, g1, g2, g3, g4, g5, hx with
  | [a0, a1, a2, a3, a4, a5, a6, a7, a8, a9], _, [y0, y1, y2, y3, y4, y5], _, g0, g1, g2, g3, g4, g5, hx =>
  rw [hx] at hz
  have t0 : DataW.trod enc Try.prog W 0 (fun _ => true) true m 3 [a0] = some y0 := g0
  have t1 : DataW.trod enc Try.prog W 0 (fun _ => true) true m 22 [a1] = some y1 := g1
  have t2 : DataW.trod enc Try.prog W 0 (fun _ => true) true m 22 [a2] = some y2 := g2
  have t3 : DataW.trod enc Try.prog W 0 (fun _ => true) true m 32 [a3, a4, a5] = some y3 := g3
  have t4 : DataW.trod enc Try.prog W 0 (fun _ => true) true m 32 [a6, a7, a8] = some y4 := g4
  have t5 : DataW.trod enc Try.prog W 0 (fun _ => true) true m 37 [a9] = some y5 := g5
  have hw : ∀ (j : Nat) (t : TypeId) (d : DataW H), ([3, 22, 22, 32, 32, 37] : List TypeId)[j]? = some t → [y0.1, y1.1, y2.1, y3.1, y4.1, y5.1][j]? = some d → ∀ k ∈ d.weights Try.prog t, (decide (k ≤ reachBytes)) = true := fun j t d h1 h2 k hk => by
    refine hz k ?_
    simp only [DataW.weights, Try.underlying47]
    exact DataW.weights_mem_each (j := j) (t := t) h1 h2 k hk
  obtain ⟨aA, ac, a, rfl, s1, z1⟩ := slz_of_trod t1 (hw 1 _ _ rfl rfl)
  obtain ⟨bA, bc, b, rfl, s2, z2⟩ := slz_of_trod t2 (hw 2 _ _ rfl rfl)
  obtain ⟨r, er, s3, z3⟩ := frz_of_cells t3 (hw 3 _ _ rfl rfl)
  obtain ⟨s, es, s4, z4⟩ := frz_of_cells t4 (hw 4 _ _ rfl rfl)
  obtain ⟨lA, lc, l, rfl, s5, z5⟩ := rgz_of_trod t5 (hw 5 _ _ rfl rfl)
  obtain ⟨kd, hk, _⟩ := DataW.trod_int Try.underlying3 t0
  injection hk with hk _
  simp only [List.cons.injEq, and_true] at er es
  obtain ⟨rfl, rfl, rfl⟩ := er
  obtain ⟨rfl, rfl, rfl⟩ := es
  subst hk
  exact ⟨⟨kd, aA, ac, a, bA, bc, b, r, s, lA, lc, l⟩, rfl, s1, s2, s3.1, s3.2, s4.1, s4.2, s5.row, s5.le, s5.cap, z1, z2, z3.1, z3.2, z4.1, z4.2, z5⟩
theorem opl_of_trod {H : Type} {enc : TypeId × Value → H} {W : World} {n : Nat} {v : Value} {y : DataW H × List MemPlace} (h : DataW.trod enc Try.prog W 0 (fun _ => true) true n 45 [v] = some y)
    (hz : ∀ k ∈ y.1.weights Try.prog 45, (decide (k ≤ reachBytes)) = true) : ∃ (A : Option Addr) (c : Nat) (l : List Opn), v = .slice A l.length c ∧ OpsL W A c l := by
  rcases open_slice Try.underlying45 h with ⟨hcs, _⟩ | ⟨a, len, cap, m, q, D, Pl, hcs, _, hl, hm, hmm, hx, hi⟩
  · injection hcs with hcs _
    subst hcs
    exact ⟨none, 0, [], rfl, ⟨fun h => absurd h (by simp), fun f h => (by cases h), by simp, by omega⟩⟩
  · injection hcs with hcs _
    subst hcs
    rw [hx] at hz
    simp only [if_true] at hmm
    subst hmm
    have hw : ∀ k ∈ DataW.weights Try.prog 45 (.slice ((List.range len).map D) ((List.range (m - len)).map fun j => D (len + j))), (decide (k ≤ reachBytes)) = true := hz
    simp only [DataW.weights, Try.underlying45, List.mem_cons, List.mem_append, List.length_map, List.length_range] at hw
    have hit : ∀ i, i < len → ∃ f : Opn, W.cells? 0 (a.add (i * 10)) 10 = some f.cs ∧ OpX W f := fun i hil => by
      obtain ⟨cs, hc, ht⟩ := hi i (by omega)
      rw [cellsOp] at hc
      obtain ⟨f, rfl, s1⟩ := opx_of_cells ht (fun k hk => hw k (.inr (.inl (weightsAll_of_mem (List.mem_map.2 ⟨i, by simpa using hil, rfl⟩) k hk))))
      exact ⟨f, hc, s1⟩
    let f : Nat → Opn := fun i => if hil : i < len then (hit i hil).choose else ⟨0, none, 0, [], none, 0, [], default, default, none, 0, []⟩
    have hf : ∀ (i : Nat) (x : Opn), ((List.range len).map f)[i]? = some x → W.cells? 0 (a.add (i * 10)) 10 = some x.cs ∧ OpX W x := fun i x hx => by
      have hil : i < len := by
        have := (List.getElem?_eq_some_iff.1 hx).1
        simpa using this
      obtain rfl : f i = x := by
        rw [List.getElem?_map, List.getElem?_range hil] at hx
        simpa using hx
      have hfi : f i = (hit i hil).choose := by simp only [f, hil, dif_pos]
      rw [hfi]
      exact (hit i hil).choose_spec
    refine ⟨some a, m, (List.range len).map f, by simp, ⟨fun hn => ?_, fun x hx => ?_, by simpa using hl, by simp [maxLen] at hm; omega⟩⟩
    · have hn0 : 0 < len := by simpa using hn
      obtain ⟨b, off, spot⟩ := a
      have hspot : spot = none := by
        obtain ⟨_, hc, _⟩ := hit 0 hn0
        obtain ⟨_, _, hat⟩ := World.cells?_some hc
        have := hat 0 (by decide)
        simpa [Addr.add] using World.cell?_spot this
      subst hspot
      refine ⟨b, off, rfl, fun i x hx j hj => ?_⟩
      obtain ⟨hc, _⟩ := hf i x hx
      obtain ⟨_, _, hat⟩ := World.cells?_some hc
      have := hat j hj
      rwa [add_add, Addr.add_lit, ← Nat.add_assoc] at this
    · obtain ⟨i, hi, rfl⟩ := List.mem_iff_getElem.1 hx
      exact (hf i _ (List.getElem?_eq_getElem hi)).2
end Go.Proofs.Ytijlaknfagpglaa
