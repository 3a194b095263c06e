/- Arguments of types Two and Item opened, with their bulk. No condition. -/
import Derived.Test.YtjjbckdiojleeaaRows
import Derived.Test.YtjjbckdiojleeaaPgargs
namespace Go.Proofs.Ytjjbckdiojleeaa
set_option linter.unusedVariables false
open Go.ChangeShapes Go.WideShapes Go.ChangeAt Go.RowKit Go.Joins Go.Deep
theorem bulk_part {H : Type} {d : DataW H} {l : List (DataW H)} (h : d ∈ l) : Rows.uptoBulk d ≤ Rows.uptoBulkAll l := by
  induction l with
  | nil => cases h
  | cons x r ih =>
    simp only [Rows.uptoBulkAll]
    rcases List.mem_cons.1 h with e | e
    · subst e; omega
    · have := ih e; omega
theorem bulk_pos {H : Type} (d : DataW H) : 1 ≤ Rows.uptoBulk d := by
  cases d with
  | lit l => cases l <;> simp [Rows.uptoBulk]
  | _ => simp [Rows.uptoBulk]
theorem bulk_len {H : Type} (l : List (DataW H)) : l.length ≤ Rows.uptoBulkAll l := by
  induction l with
  | nil => simp
  | cons x r ih =>
    simp only [Rows.uptoBulkAll, List.length_cons]
    have := bulk_pos x
    omega
/-- A page whose lists are no longer than this. -/
structure BkP (n : Nat) (p : Pg) : Prop where
  cnt : p.items.length ≤ n
  each : ∀ i ∈ p.items, i.key.length ≤ n ∧ i.val.length ≤ n
  d : p.data.length ≤ n
theorem slv_of_trodB {H : Type} {enc : TypeId × Value → H} {W : World} {v : Value} {y : DataW H × List MemPlace} {n : Nat} (hf : DataW.trod enc Try.prog W 0 (fun _ => true) true n 24 [v] = some y)
    (hz : ∀ k ∈ y.1.weights Try.prog 24, (decide (k ≤ reachBytes)) = true) : ∃ (A : Option Addr) (c : Nat) (bs : List UInt8), v = .slice A bs.length c ∧ Sl W A c bs ∧ bs.length ≤ Rows.uptoBulk y.1 := by
  have hv : ∃ A l c, v = .slice A l c := by
    rcases open_ints Try.underlying24 Try.underlying5 (by kernel_rfl) hf with ⟨hcs, _⟩ | ⟨x, l, c, zs, hcs, _⟩
    · injection hcs with hcs _; exact ⟨_, _, _, hcs⟩
    · injection hcs with hcs _; exact ⟨_, _, _, hcs⟩
  obtain ⟨A, l, c, rfl⟩ := hv
  obtain ⟨d, p⟩ := y
  obtain ⟨bs, rfl, rd, le, _, sz⟩ := sl_of_trod (d := d) (p := p) rfl ⟨n, by simpa [Value.cells] using hf⟩
  refine ⟨A, c, bs, rfl, Sl.of_size rd le ?_, ?_⟩
  · rcases sz with ⟨_, h⟩ | ⟨el, sp, rfl, h⟩
    · rw [h]; exact Nat.zero_le _
    · have := of_decide_eq_true (hz ((el.length + sp.length) * Try.prog.bytesOf 5) (by simp [DataW.weights, Try.underlying24]))
      rwa [bytesU8, Nat.mul_one, h] at this
  · rcases sz with ⟨_, h⟩ | ⟨el, sp, rfl, h⟩
    · rw [h] at le; omega
    · have h1 := bulk_len el
      have h2 := bulk_len sp
      simp only [Rows.uptoBulk]
      omega
theorem item_of_cellsB {H : Type} {enc : TypeId × Value → H} {W : World} {n : Nat} {cs : List Value} {x : DataW H × List MemPlace} (h : DataW.trod enc Try.prog W 0 (fun _ => true) true n 51 cs = some x)
    (hz : ∀ k ∈ x.1.weights Try.prog 51, (decide (k ≤ reachBytes)) = true) : ∃ (i : It) (kA vA : Option Addr) (kc vc : Nat), cs = [.slice kA i.key.length kc, .slice vA i.val.length vc, .int .i64 i.ch, .int .i64 i.sz] ∧ Sl W kA kc i.key ∧ Sl W vA vc i.val ∧ i.key.length ≤ Rows.uptoBulk x.1 ∧ i.val.length ≤ Rows.uptoBulk x.1 := by
  obtain ⟨ys, m, hx, hl, hy, hf⟩ := fields_of_trod Try.underlying51 (by kernel_rfl) cellsIt h
  obtain ⟨v0, y0, c0, e0, t0⟩ := hf 0 _ rfl
  obtain ⟨v1, y1, c1, e1, t1⟩ := hf 1 _ rfl
  obtain ⟨v2, y2, c2, e2, t2⟩ := hf 2 _ rfl
  obtain ⟨v3, y3, c3, e3, t3⟩ := hf 3 _ rfl
  match cs, hl, c0, c1, c2, c3, ys, hy, e0, e1, e2, e3, hx with
  | [_, _, _, _], _, rfl, rfl, rfl, rfl, [_, _, _, _], _, rfl, rfl, rfl, rfl, hx =>
  have hx' := hx
  rw [hx] at hz
  obtain ⟨kA, kc, key, rfl, sk, bk⟩ := slv_of_trodB t0 (fun k hk => hz k (by simp [DataW.weights, Try.underlying51, DataW.weightsEach]; exact .inl hk))
  obtain ⟨vA, vc, val, rfl, sv, bv⟩ := slv_of_trodB t1 (fun k hk => hz k (by simp [DataW.weights, Try.underlying51, DataW.weightsEach]; exact .inr (.inl hk)))
  obtain ⟨a, ha, _⟩ := DataW.trod_int Try.underlying3 t2
  obtain ⟨b, hb, _⟩ := DataW.trod_int Try.underlying3 t3
  injection ha with ha _
  injection hb with hb _
  subst ha hb
  exact ⟨⟨key, val, a, b⟩, kA, vA, kc, vc, rfl, sk, sv, by rw [hx']; simp only [List.map_cons, List.map_nil, Rows.uptoBulk, Rows.uptoBulkAll]; omega, by rw [hx']; simp only [List.map_cons, List.map_nil, Rows.uptoBulk, Rows.uptoBulkAll]; omega⟩
theorem its_of_trodB {H : Type} {enc : TypeId × Value → H} {W : World} {n : Nat} {v : Value} {y : DataW H × List MemPlace} (h : DataW.trod enc Try.prog W 0 (fun _ => true) true n 23 [v] = some y)
    (hz : ∀ k ∈ y.1.weights Try.prog 23, (decide (k ≤ reachBytes)) = true) : ∃ (A : Option Addr) (c : Nat) (l : List It), v = .slice A l.length c ∧ Its W A c l ∧ l.length ≤ 2199023255488 ∧ l.length ≤ Rows.uptoBulk y.1 ∧ ∀ x ∈ l, x.key.length ≤ Rows.uptoBulk y.1 ∧ x.val.length ≤ Rows.uptoBulk y.1 := by
  rcases open_slice Try.underlying23 h with ⟨hcs, _⟩ | ⟨a, len, cap, m, q, D, Pl, hcs, _, hl, hm, hmm, hx, hi⟩
  · injection hcs with hcs _
    subst hcs
    exact ⟨none, 0, [], rfl, Its.nil _ _ (by decide), by decide, Nat.zero_le _, (fun _ h => by cases h)⟩
  · injection hcs with hcs _
    subst hcs
    rw [hx] at hz
    simp only [if_true] at hmm
    subst hmm
    have hw : ∀ k ∈ DataW.weights Try.prog 23 (.slice ((List.range len).map D) ((List.range (m - len)).map fun j => D (len + j))), (decide (k ≤ reachBytes)) = true := hz
    simp only [DataW.weights, Try.underlying23, List.mem_cons, List.mem_append, List.length_map, List.length_range, bytesIt] at hw
    have h1 := of_decide_eq_true (hw _ (.inl rfl))
    have h2 : reachBytes = 140737488351232 := by decide
    have hit : ∀ i, i < len → ∃ (x : It) (kA vA : Option Addr) (kc vc : Nat), W.cells? 0 (a.add (i * 4)) 4 = some [.slice kA x.key.length kc, .slice vA x.val.length vc, .int .i64 x.ch, .int .i64 x.sz] ∧ Sl W kA kc x.key ∧ Sl W vA vc x.val ∧ x.key.length ≤ Rows.uptoBulk (D i) ∧ x.val.length ≤ Rows.uptoBulk (D i) := fun i hil => by
      obtain ⟨cs, hc, ht⟩ := hi i (by omega)
      rw [cellsIt] at hc
      obtain ⟨x, kA, vA, kc, vc, rfl, s1, s2, s3⟩ := item_of_cellsB ht (fun k hk => hw k (.inr (.inl (weightsAll_of_mem (List.mem_map.2 ⟨i, by simpa using hil, rfl⟩) k hk))))
      exact ⟨x, kA, vA, kc, vc, hc, s1, s2, s3⟩
    let f : Nat → It := fun i => if hil : i < len then (hit i hil).choose else It.zero
    refine ⟨some a, m, (List.range len).map f, by simp, ⟨fun hn => ?_, by simp; omega, by simpa using hl, by simp [maxLen] at hm; omega⟩, by simp; omega, by
      rw [hx]; simp only [Rows.uptoBulk, List.length_map, List.length_range]
      have := bulk_len ((List.range len).map D)
      simp only [List.length_map, List.length_range] at this
      omega, fun x hx2 => ?_⟩
    rotate_left
    · obtain ⟨i, hi1, rfl⟩ := List.mem_map.1 hx2
      have hil : i < len := by simpa using hi1
      have hfi : f i = (hit i hil).choose := by simp only [f, hil, dif_pos]
      rw [hfi, hx]
      obtain ⟨_, _, _, _, _, _, _, b1, b2⟩ := (hit i hil).choose_spec
      have b3 := bulk_part (l := (List.range len).map D) (List.mem_map.2 ⟨i, by simpa using hil, rfl⟩)
      simp only [Rows.uptoBulk]
      omega
    have hn0 : 0 < len := by simpa using hn
    obtain ⟨b, off, spot⟩ := a
    have hspot : spot = none := by
      obtain ⟨_, _, _, _, _, hc, _⟩ := hit 0 hn0
      obtain ⟨_, _, hat⟩ := World.cells?_some hc
      have := hat 0 (by decide)
      simpa [Addr.add] using World.cell?_spot this
    subst hspot
    refine ⟨b, off, rfl, fun i x hx => ?_⟩
    have hil : i < len := by
      have := (List.getElem?_eq_some_iff.1 hx).1
      simpa using this
    obtain rfl : f i = x := by
      rw [List.getElem?_map, List.getElem?_range hil] at hx
      simpa using hx
    obtain ⟨kA, vA, kc, vc, hc, s1, s2, _⟩ := (hit i hil).choose_spec
    have hfi : f i = (hit i hil).choose := by simp only [f, hil, dif_pos]
    rw [hfi]
    obtain ⟨_, _, hat⟩ := World.cells?_some hc
    have hcell : ∀ j, j < 4 → W.cell? ⟨b, off + i * 4 + j, none⟩ = [Value.slice kA (hit i hil).choose.key.length kc, .slice vA (hit i hil).choose.val.length vc, .int .i64 (hit i hil).choose.ch, .int .i64 (hit i hil).choose.sz][j]? := fun j hj => by
      have := hat j hj
      rwa [add_add, Addr.add_lit, ← Nat.add_assoc] at this
    exact ⟨kA, kc, vA, vc, hcell 0 (by omega), hcell 1 (by omega), hcell 2 (by omega), hcell 3 (by omega), s1, s2⟩
theorem page_of_cellsB {H : Type} {enc : TypeId × Value → H} {W : World} {n : Nat} {l : List Value} {x : DataW H × List MemPlace} (h : DataW.trod enc Try.prog W 0 (fun _ => true) true n 26 l = some x)
    (hz : ∀ k ∈ x.1.weights Try.prog 26, (decide (k ≤ reachBytes)) = true) : ∃ (q : Pg) (iA : Option Addr) (ic : Nat) (dA : Option Addr) (dc : Nat), l = [.int .i64 q.kind, .int .i64 q.level, .slice iA q.items.length ic, .slice dA q.data.length dc, .int .i64 q.next] ∧ Its W iA ic q.items ∧ Sl W dA dc q.data ∧ q.items.length ≤ 2199023255488 ∧ q.items.length ≤ Rows.uptoBulk x.1 ∧ (∀ i ∈ q.items, i.key.length ≤ Rows.uptoBulk x.1 ∧ i.val.length ≤ Rows.uptoBulk x.1) ∧ q.data.length ≤ Rows.uptoBulk x.1 := by
  obtain ⟨ys, m, hx, hl, hy, hf⟩ := fields_of_trod Try.underlying26 (by kernel_rfl) cellsPg h
  obtain ⟨v0, y0, c0, e0, t0⟩ := hf 0 _ rfl
  obtain ⟨v1, y1, c1, e1, t1⟩ := hf 1 _ rfl
  obtain ⟨v2, y2, c2, e2, t2⟩ := hf 2 _ rfl
  obtain ⟨v3, y3, c3, e3, t3⟩ := hf 3 _ rfl
  obtain ⟨v4, y4, c4, e4, t4⟩ := hf 4 _ rfl
  match l, hl, c0, c1, c2, c3, c4, ys, hy, e0, e1, e2, e3, e4, hx with
  | [_, _, _, _, _], _, rfl, rfl, rfl, rfl, rfl, [_, _, _, _, _], _, rfl, rfl, rfl, rfl, rfl, hx =>
  have hx' := hx
  rw [hx] at hz
  obtain ⟨a, ha, _⟩ := DataW.trod_int Try.underlying3 t0
  obtain ⟨b, hb, _⟩ := DataW.trod_int Try.underlying3 t1
  obtain ⟨c, hc, _⟩ := DataW.trod_int Try.underlying3 t4
  obtain ⟨iA, ic, l, rfl, s2, s4, s5, s6⟩ := its_of_trodB t2 (fun k hk => hz k (by simp [DataW.weights, Try.underlying26, DataW.weightsEach]; exact .inr (.inr (.inl hk))))
  obtain ⟨dA, dc, data, rfl, s3, s7⟩ := slv_of_trodB t3 (fun k hk => hz k (by simp [DataW.weights, Try.underlying26, DataW.weightsEach]; exact .inr (.inr (.inr (.inl hk)))))
  injection ha with ha _
  injection hb with hb _
  injection hc with hc _
  subst ha hb hc
  refine ⟨⟨a, b, l, data, c⟩, iA, ic, dA, dc, rfl, s2, s3, s4, ?_, ?_, ?_⟩
  all_goals rw [hx']; simp only [List.map_cons, List.map_nil, Rows.uptoBulk, Rows.uptoBulkAll]
  · omega
  · intro i hi
    have := s6 i hi
    omega
  · omega
theorem item_of_trodB {H : Type} {enc : TypeId × Value → H} {W : World} {b0 : Nat} {v : Value} {d : DataW H} {p : List MemPlace} (hv : Value.okWide Try.prog W .any b0 51 v) (h0 : DataW.Trod enc Try.prog W 0 (fun _ => true) true 51 v d p)
    (hz : ∀ k ∈ d.weights Try.prog 51, (decide (k ≤ reachBytes)) = true) : ∃ q : It, ItV W v q ∧ q.key.length ≤ Rows.uptoBulk d ∧ q.val.length ≤ Rows.uptoBulk d := by
  obtain ⟨cs, rfl, _⟩ := okWide_struct Try.underlying51 hv
  obtain ⟨l⟩ := cs
  obtain ⟨n, hf0⟩ := h0
  obtain ⟨i, kA, vA, kc, vc, rfl, s1, s2, s3⟩ := item_of_cellsB (x := (d, p)) hf0 hz
  exact ⟨i, ⟨kA, kc, vA, vc, rfl, s1, s2⟩, s3⟩
theorem two_of_trodB {H : Type} {enc : TypeId × Value → H} {W : World} {b0 : Nat} {v : Value} {d : DataW H} {p : List MemPlace} (hv : Value.okWide Try.prog W .any b0 40 v) (h0 : DataW.Trod enc Try.prog W 0 (fun _ => true) true 40 v d p)
    (hz : ∀ k ∈ d.weights Try.prog 40, (decide (k ≤ reachBytes)) = true) : ∃ (p q : Pg) (sep : List UInt8) (toR : Bool), TwoV W v p q sep toR ∧ BkP (Rows.uptoBulk d) p ∧ BkP (Rows.uptoBulk d) q ∧ sep.length ≤ Rows.uptoBulk d := by
  obtain ⟨cs, rfl, _⟩ := okWide_struct Try.underlying40 hv
  obtain ⟨l⟩ := cs
  obtain ⟨n, hf0⟩ := h0
  have hf1 : DataW.trod enc Try.prog W 0 (fun _ => true) true n 40 l = some (d, p) := hf0
  obtain ⟨ys, m, _, hx, hl, hy, hg⟩ := DataW.trod_struct Try.underlying40 hf1
  rw [cellsTwo] at hl
  have g0 := hg 0 _ rfl
  have g1 := hg 1 _ rfl
  have g2 := hg 2 _ rfl
  have g3 := hg 3 _ rfl
  clear hg hf1 hf0
  match l, hl, ys, hy, g0, g1, g2, g3, hx with
  | [a0, a1, a2, a3, a4, a5, a6, a7, a8, a9, a10, a11], _, [y0, y1, y2, y3], _, g0, g1, g2, g3, hx =>
  injection hx with hd hp
  have hd' := hd
  rw [hd] at hz
  have t0 : DataW.trod enc Try.prog W 0 (fun _ => true) true m 26 [a0, a1, a2, a3, a4] = some y0 := g0
  have t1 : DataW.trod enc Try.prog W 0 (fun _ => true) true m 26 [a5, a6, a7, a8, a9] = some y1 := g1
  have t2 : DataW.trod enc Try.prog W 0 (fun _ => true) true m 24 [a10] = some y2 := g2
  have t3 : DataW.trod enc Try.prog W 0 (fun _ => true) true m 4 [a11] = some y3 := g3
  obtain ⟨p1, iA, ic, dA, dc, e1, s1, s2, s3, b1, b2, b3⟩ := page_of_cellsB t0 (fun k hk => hz k (by simp [DataW.weights, Try.underlying40, DataW.weightsEach]; exact .inl hk))
  obtain ⟨p2, jA, jc, eA, ec, e2, s4, s5, s6, b4, b5, b6⟩ := page_of_cellsB t1 (fun k hk => hz k (by simp [DataW.weights, Try.underlying40, DataW.weightsEach]; exact .inr (.inl hk)))
  obtain ⟨sA, sc, sep, rfl, s7, b7⟩ := slv_of_trodB t2 (fun k hk => hz k (by simp [DataW.weights, Try.underlying40, DataW.weightsEach]; exact .inr (.inr (.inl hk))))
  obtain ⟨b, hb, _⟩ := DataW.trod_bool Try.underlying4 t3
  injection hb with hb _
  subst hb
  simp only [List.cons.injEq, and_true] at e1 e2
  obtain ⟨rfl, rfl, rfl, rfl, rfl⟩ := e1
  obtain ⟨rfl, rfl, rfl, rfl, rfl⟩ := e2
  refine ⟨p1, p2, sep, b, ⟨iA, ic, dA, dc, jA, jc, eA, ec, sA, sc, rfl, s1, s2, s4, s5, s7, s3, s6⟩, ?_, ?_, ?_⟩
  all_goals rw [hd']; simp only [List.map_cons, List.map_nil, Rows.uptoBulk, Rows.uptoBulkAll]
  · exact ⟨by omega, fun i hi => by have := b2 i hi; omega, by omega⟩
  · exact ⟨by omega, fun i hi => by have := b5 i hi; omega, by omega⟩
  · omega
end Go.Proofs.Ytjjbckdiojleeaa
