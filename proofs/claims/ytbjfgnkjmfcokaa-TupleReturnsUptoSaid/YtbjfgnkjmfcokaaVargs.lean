/- Layer 3: arguments of type []V opened. No condition. -/
import Derived.Test.YtbjfgnkjmfcokaaRows
import Derived.Test.YtbjfgnkjmfcokaaPgargs
import Derived.Test.YtbjfgnkjmfcokaaTlist
import Derived.Deep.Slices
import Derived.Deep.Fields
namespace Go.Proofs.Ytbjfgnkjmfcokaa
set_option linter.unusedVariables false
open Go.ChangeShapes Go.WideShapes Go.ChangeAt Go.RowKit Go.Joins Go.Deep
theorem cellsVl : Try.prog.cellsOf 51 = 7 := by kernel_rfl
theorem bytesVl : Try.prog.bytesOf 51 = 64 := by kernel_rfl
theorem u64_of_wf {n : Int} (h : (Lit.int .u64 n).wf = true) : ∃ k : Nat, n = (k : Int) ∧ k < 18446744073709551616 := by
  simp [Lit.wf] at h
  have e1 : IntKind.u64.min = 0 := by decide
  have e2 : IntKind.u64.max = 18446744073709551615 := by decide
  exact ⟨n.toNat, by omega, by omega⟩
theorem i64_of_wf {n : Int} (h : (Lit.int .i64 n).wf = true) : -9223372036854775808 ≤ n ∧ n ≤ 9223372036854775807 := by
  simp [Lit.wf] at h
  have e1 : IntKind.i64.min = -9223372036854775808 := by decide
  have e2 : IntKind.i64.max = 9223372036854775807 := by decide
  omega
theorem bulk_part {H : Type} {d : DataW H} {l : List (DataW H)} (h : d ∈ l) : Rows.uptoBulk d ≤ Rows.uptoBulkAll l := by
  induction l with
  | nil => cases h
  | cons x r ih =>
    simp only [Rows.uptoBulkAll]
    rcases List.mem_cons.1 h with e | e
    · subst e; omega
    · have := ih e; omega
/-- The cells of a value that has come in. -/
theorem val_of_cells {H : Type} {enc : TypeId × Value → H} {W : World} {n : Nat} {cs : List Value} {x : DataW H × List MemPlace} (h : DataW.trod enc Try.prog W 0 (fun _ => true) true n 51 cs = some x)
    (hz : ∀ k ∈ x.1.weights Try.prog 51, (decide (k ≤ reachBytes)) = true) : ∃ v : Vl, cs = v.dc ∧ v.Ok ∧ x.1 = .agg [.lit (.int .i64 v.kind), .lit (.bool v.bool), .lit (.int .i64 v.int), .lit (.int .u64 v.real), .lit (.int .u64 v.re), .lit (.int .u64 v.im), .lit (.string v.text)] ∧ v.text.length ≤ Rows.uptoBulk x.1 := by
  obtain ⟨ys, m, hx, hl, hy, hf⟩ := fields_of_trod Try.underlying51 (by kernel_rfl) cellsVl h
  obtain ⟨v0, y0, c0, e0, t0⟩ := hf 0 _ rfl
  obtain ⟨v1, y1, c1, e1, t1⟩ := hf 1 _ rfl
  obtain ⟨v2, y2, c2, e2, t2⟩ := hf 2 _ rfl
  obtain ⟨v3, y3, c3, e3, t3⟩ := hf 3 _ rfl
  obtain ⟨v4, y4, c4, e4, t4⟩ := hf 4 _ rfl
  obtain ⟨v5, y5, c5, e5, t5⟩ := hf 5 _ rfl
  obtain ⟨v6, y6, c6, e6, t6⟩ := hf 6 _ rfl
  match cs, hl, c0, c1, c2, c3, c4, c5, c6, ys, hy, e0, e1, e2, e3, e4, e5, e6, hx with
  | [_, _, _, _, _, _, _], _, rfl, rfl, rfl, rfl, rfl, rfl, rfl, [_, _, _, _, _, _, _], _, rfl, rfl, rfl, rfl, rfl, rfl, rfl, hx =>
  rw [hx] at hz
  obtain ⟨a0, h0, d0, g0⟩ := DataW.trod_int Try.underlying3 t0
  obtain ⟨a1, h1, d1⟩ := DataW.trod_bool Try.underlying4 t1
  obtain ⟨a2, h2, d2, g2⟩ := DataW.trod_int Try.underlying2 t2
  obtain ⟨a3, h3, d3, g3⟩ := DataW.trod_int Try.underlying49 t3
  obtain ⟨a4, h4, d4, g4⟩ := DataW.trod_int Try.underlying49 t4
  obtain ⟨a5, h5, d5, g5⟩ := DataW.trod_int Try.underlying49 t5
  obtain ⟨a6, h6, d6, g6⟩ := DataW.trod_string Try.underlying9 t6
  obtain ⟨n3, rfl, b3⟩ := u64_of_wf g3
  obtain ⟨n4, rfl, b4⟩ := u64_of_wf g4
  obtain ⟨n5, rfl, b5⟩ := u64_of_wf g5
  injection h0 with h0 _
  injection h1 with h1 _
  injection h2 with h2 _
  injection h3 with h3 _
  injection h4 with h4 _
  injection h5 with h5 _
  injection h6 with h6 _
  subst h0 h1 h2 h3 h4 h5 h6 d0 d1 d2 d3 d4 d5 d6
  have hr : reachBytes = 140737488351232 := by decide
  have hw := of_decide_eq_true (hz a6.data.toList.length (by simp [DataW.weights, Try.underlying51, DataW.weightsEach]))
  refine ⟨⟨a0, a1, a2, n3, n4, n5, a6.data.toList⟩, rfl, ⟨i64_of_wf g0, i64_of_wf g2, b3, b4, b5, by simp only; omega⟩, hx, by rw [hx]; simp only [List.map_cons, List.map_nil, Rows.uptoBulk, Rows.uptoBulkAll]; omega⟩
/-- A row of values that has come in. -/
theorem vals_of_trod {H : Type} {enc : TypeId × Value → H} {W : World} {n : Nat} {v : Value} {y : DataW H × List MemPlace} (h : DataW.trod enc Try.prog W 0 (fun _ => true) true n 23 [v] = some y)
    (hz : ∀ k ∈ y.1.weights Try.prog 23, (decide (k ≤ reachBytes)) = true) : ∃ (A : Option Addr) (c : Nat) (l : List Vl), v = .slice A l.length c ∧ DL W A c l ∧ l.length + 2 ≤ 2199023255552 ∧ ∀ v ∈ l, v.text.length ≤ Rows.uptoBulk y.1 := by
  rcases open_slice Try.underlying23 h with ⟨hcs, _⟩ | ⟨a, len, cap, m, q, D, Pl, hcs, _, hl, hm, hmm, hx, hi⟩
  · injection hcs with hcs _
    subst hcs
    exact ⟨none, 0, [], rfl, VL.nil _ _ (by decide), by decide, by simp⟩
  · injection hcs with hcs _
    subst hcs
    rw [hx] at hz
    simp only [if_true] at hmm
    subst hmm
    have hw : ∀ k ∈ DataW.weights Try.prog 23 (.slice ((List.range len).map D) ((List.range (m - len)).map fun j => D (len + j))), (decide (k ≤ reachBytes)) = true := hz
    simp only [DataW.weights, Try.underlying23, List.mem_cons, List.mem_append, List.length_map, List.length_range, bytesVl] at hw
    have h1 := of_decide_eq_true (hw _ (.inl rfl))
    have h2 : reachBytes = 140737488351232 := by decide
    have hit : ∀ i, i < len → ∃ x : Vl, W.cells? 0 (a.add (i * 7)) 7 = some x.dc ∧ x.Ok ∧ x.text.length ≤ Rows.uptoBulk (D i) := fun i hil => by
      obtain ⟨cs, hc, ht⟩ := hi i (by omega)
      rw [cellsVl] at hc
      obtain ⟨x, rfl, s1, _, s2⟩ := val_of_cells ht (fun k hk => hw k (.inr (.inl (weightsAll_of_mem (List.mem_map.2 ⟨i, by simpa using hil, rfl⟩) k hk))))
      exact ⟨x, hc, s1, s2⟩
    let f : Nat → Vl := fun i => if hil : i < len then (hit i hil).choose else Vl.zero
    refine ⟨some a, m, (List.range len).map f, by simp, ⟨fun hn => ?_, by simp; omega, by simpa using hl, by simp [maxLen] at hm; omega, fun x hx => ?_⟩, by simp; omega, fun x hx2 => ?_⟩
    · have hn0 : 0 < len := by simpa using hn
      obtain ⟨b, off, spot⟩ := a
      have hspot : spot = none := by
        obtain ⟨_, hc, _⟩ := hit 0 hn0
        obtain ⟨_, _, hat⟩ := World.cells?_some hc
        have := hat 0 (by decide)
        simpa [Addr.add] using World.cell?_spot this
      subst hspot
      refine ⟨b, off, rfl, fun i x j u hx hu => ?_⟩
      have hil : i < len := by
        have := (List.getElem?_eq_some_iff.1 hx).1
        simpa using this
      obtain rfl : f i = x := by
        rw [List.getElem?_map, List.getElem?_range hil] at hx
        simpa using hx
      obtain ⟨hc, s1, _⟩ := (hit i hil).choose_spec
      have hfi : f i = (hit i hil).choose := by simp only [f, hil, dif_pos]
      rw [hfi] at hu
      obtain ⟨_, _, hat⟩ := World.cells?_some hc
      have hj : j < 7 := (List.getElem?_eq_some_iff.1 hu).1
      have := hat j hj
      rw [add_add, Addr.add_lit, ← Nat.add_assoc] at this
      rw [this, hu]
    · obtain ⟨i, hi1, rfl⟩ := List.mem_map.1 hx
      have hil : i < len := by simpa using hi1
      have hfi : f i = (hit i hil).choose := by simp only [f, hil, dif_pos]
      rw [hfi]
      exact (hit i hil).choose_spec.2.1
    · obtain ⟨i, hi1, rfl⟩ := List.mem_map.1 hx2
      have hil : i < len := by simpa using hi1
      have hfi : f i = (hit i hil).choose := by simp only [f, hil, dif_pos]
      rw [hfi, hx]
      refine Nat.le_trans (hit i hil).choose_spec.2.2 (Nat.le_trans (bulk_part (l := (List.range len).map D) (List.mem_map.2 ⟨i, by simpa using hil, rfl⟩)) ?_)
      simp only [Rows.uptoBulk]
      omega
end Go.Proofs.Ytbjfgnkjmfcokaa
