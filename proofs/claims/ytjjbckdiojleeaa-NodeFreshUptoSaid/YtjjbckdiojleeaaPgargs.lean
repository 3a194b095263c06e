/- Arguments of types api.Page, api.Item and [][]byte opened. No condition. -/
import Derived.Test.YtjjbckdiojleeaaArgsr
import Derived.Test.YtjjbckdiojleeaaPage
import Derived.Deep.Slices
import Derived.Deep.Fields
namespace Go.Proofs.Ytjjbckdiojleeaa
set_option linter.unusedVariables false
open Go.ChangeShapes Go.WideShapes Go.ChangeAt Go.RowKit Go.Joins Go.Deep
/-- The fields of a struct of one-cell fields, read one by one. -/
theorem fields_of_trod {H : Type} {enc : TypeId × Value → H} {W : World} {base : Nat} {sp : Nat → Bool} {held : Bool} {t : TypeId} {fs : Array Field} {fuel : Nat} {cs : List Value} {x : DataW H × List MemPlace} (ht : Try.prog.underlying t = some (.struct fs)) (hone : oneCellFields Try.prog fs = true) (hC : Try.prog.cellsOf t = fs.size)
    (h : DataW.trod enc Try.prog W base sp held fuel t cs = some x) : ∃ (ys : List (DataW H × List MemPlace)) (n : Nat), x.1 = .agg (ys.map (·.1)) ∧ cs.length = fs.size ∧ ys.length = fs.size ∧
      ∀ (j : Nat) (f : Field), fs[j]? = some f → ∃ v y, cs[j]? = some v ∧ ys[j]? = some y ∧ DataW.trod enc Try.prog W base sp held n f.type [v] = some y := by
  obtain ⟨ys, n, _, hx, hl, hy, hg⟩ := DataW.trod_struct ht h
  refine ⟨ys, n, by rw [hx], by rw [hl, hC], hy, fun j f hj => ?_⟩
  obtain ⟨ho, hk⟩ := hone_of hone j f hj
  have hj1 : j < fs.size := (Array.getElem?_eq_some_iff.1 hj).1
  have h1 := hg j f hj
  rw [ho, hk, List.drop_eq_getElem_cons (by rw [hl, hC]; exact hj1)] at h1
  exact ⟨_, _, List.getElem?_eq_getElem (by rw [hl, hC]; exact hj1), List.getElem?_eq_getElem (by rw [hy]; exact hj1), h1.trans (List.getElem?_eq_getElem (by rw [hy]; exact hj1))⟩
theorem weightsAll_of_mem {H : Type} {P : Program} {e : TypeId} {d : DataW H} : ∀ {l : List (DataW H)}, d ∈ l → ∀ n ∈ d.weights P e, n ∈ DataW.weightsAll P e l
  | [], h, _, _ => by cases h
  | x :: l, h, n, hn => by
    simp only [DataW.weightsAll, List.mem_append]
    rcases List.mem_cons.1 h with rfl | h
    · exact .inl hn
    · exact .inr (weightsAll_of_mem h n hn)
theorem cellsIt : Try.prog.cellsOf 51 = 4 := by kernel_rfl
theorem cellsPg : Try.prog.cellsOf 26 = 5 := by kernel_rfl
theorem bytesIt : Try.prog.bytesOf 51 = 64 := by kernel_rfl
/-- The cells of an item that has come in. -/
theorem item_of_cells {H : Type} {enc : TypeId × Value → H} {W : World} {n : Nat} {cs : List Value} {x : DataW H × List MemPlace} (h : DataW.trod enc Try.prog W 0 (fun _ => true) true n 51 cs = some x)
    (hz : ∀ k ∈ x.1.weights Try.prog 51, (decide (k ≤ reachBytes)) = true) : ∃ (i : It) (kA vA : Option Addr) (kc vc : Nat), cs = [.slice kA i.key.length kc, .slice vA i.val.length vc, .int .i64 i.ch, .int .i64 i.sz] ∧ Sl W kA kc i.key ∧ Sl W vA vc i.val := by
  obtain ⟨ys, m, hx, hl, hy, hf⟩ := fields_of_trod Try.underlying51 (by kernel_rfl) cellsIt h
  obtain ⟨v0, y0, c0, e0, t0⟩ := hf 0 _ rfl
  obtain ⟨v1, y1, c1, e1, t1⟩ := hf 1 _ rfl
  obtain ⟨v2, y2, c2, e2, t2⟩ := hf 2 _ rfl
  obtain ⟨v3, y3, c3, e3, t3⟩ := hf 3 _ rfl
  match cs, hl, c0, c1, c2, c3, ys, hy, e0, e1, e2, e3, hx with
  | [_, _, _, _], _, rfl, rfl, rfl, rfl, [_, _, _, _], _, rfl, rfl, rfl, rfl, hx =>
  rw [hx] at hz
  obtain ⟨kA, kc, key, rfl, sk⟩ := slv_of_trod t0 (fun k hk => hz k (by simp [DataW.weights, Try.underlying51, DataW.weightsEach]; exact .inl hk))
  obtain ⟨vA, vc, val, rfl, sv⟩ := slv_of_trod t1 (fun k hk => hz k (by simp [DataW.weights, Try.underlying51, DataW.weightsEach]; exact .inr (.inl hk)))
  obtain ⟨a, ha, _⟩ := DataW.trod_int Try.underlying3 t2
  obtain ⟨b, hb, _⟩ := DataW.trod_int Try.underlying3 t3
  injection ha with ha _
  injection hb with hb _
  subst ha hb
  exact ⟨⟨key, val, a, b⟩, kA, vA, kc, vc, rfl, sk, sv⟩
/-- A row of items that has come in. -/
theorem its_of_trod {H : Type} {enc : TypeId × Value → H} {W : World} {n : Nat} {v : Value} {y : DataW H × List MemPlace} (h : DataW.trod enc Try.prog W 0 (fun _ => true) true n 23 [v] = some y)
    (hz : ∀ k ∈ y.1.weights Try.prog 23, (decide (k ≤ reachBytes)) = true) : ∃ (A : Option Addr) (c : Nat) (l : List It), v = .slice A l.length c ∧ Its W A c l ∧ l.length ≤ 2199023255488 := by
  rcases open_slice Try.underlying23 h with ⟨hcs, _⟩ | ⟨a, len, cap, m, q, D, Pl, hcs, _, hl, hm, hmm, hx, hi⟩
  · injection hcs with hcs _
    subst hcs
    exact ⟨none, 0, [], rfl, Its.nil _ _ (by decide), by decide⟩
  · injection hcs with hcs _
    subst hcs
    rw [hx] at hz
    simp only [if_true] at hmm
    subst hmm
    have hw : ∀ k ∈ DataW.weights Try.prog 23 (.slice ((List.range len).map D) ((List.range (m - len)).map fun j => D (len + j))), (decide (k ≤ reachBytes)) = true := hz
    simp only [DataW.weights, Try.underlying23, List.mem_cons, List.mem_append, List.length_map, List.length_range, bytesIt] at hw
    have h1 := of_decide_eq_true (hw _ (.inl rfl))
    have h2 : reachBytes = 140737488351232 := by decide
    have hit : ∀ i, i < len → ∃ (x : It) (kA vA : Option Addr) (kc vc : Nat), W.cells? 0 (a.add (i * 4)) 4 = some [.slice kA x.key.length kc, .slice vA x.val.length vc, .int .i64 x.ch, .int .i64 x.sz] ∧ Sl W kA kc x.key ∧ Sl W vA vc x.val := fun i hil => by
      obtain ⟨cs, hc, ht⟩ := hi i (by omega)
      rw [cellsIt] at hc
      obtain ⟨x, kA, vA, kc, vc, rfl, s1, s2⟩ := item_of_cells ht (fun k hk => hw k (.inr (.inl (weightsAll_of_mem (List.mem_map.2 ⟨i, by simpa using hil, rfl⟩) k hk))))
      exact ⟨x, kA, vA, kc, vc, hc, s1, s2⟩
    let f : Nat → It := fun i => if hil : i < len then (hit i hil).choose else It.zero
    refine ⟨some a, m, (List.range len).map f, by simp, ⟨fun hn => ?_, by simp; omega, by simpa using hl, by simp [maxLen] at hm; omega⟩, by simp; omega⟩
    have hn0 : 0 < len := by simpa using hn
    obtain ⟨b, off, spot⟩ := a
    have hspot : spot = none := by
      obtain ⟨_, _, _, _, _, hc, _⟩ := hit 0 hn0
      obtain ⟨_, _, hat⟩ := World.cells?_some hc
      have := hat 0 (by decide)
      simpa [Addr.add] using World.cell?_spot this
    subst hspot
    refine ⟨b, off, rfl, fun i x hx => ?_⟩
    have hil : i < len := by
      have := (List.getElem?_eq_some_iff.1 hx).1
      simpa using this
    obtain rfl : f i = x := by
      rw [List.getElem?_map, List.getElem?_range hil] at hx
      simpa using hx
    obtain ⟨kA, vA, kc, vc, hc, s1, s2⟩ := (hit i hil).choose_spec
    have hfi : f i = (hit i hil).choose := by simp only [f, hil, dif_pos]
    rw [hfi]
    obtain ⟨_, _, hat⟩ := World.cells?_some hc
    have hcell : ∀ j, j < 4 → W.cell? ⟨b, off + i * 4 + j, none⟩ = [Value.slice kA (hit i hil).choose.key.length kc, .slice vA (hit i hil).choose.val.length vc, .int .i64 (hit i hil).choose.ch, .int .i64 (hit i hil).choose.sz][j]? := fun j hj => by
      have := hat j hj
      rwa [add_add, Addr.add_lit, ← Nat.add_assoc] at this
    exact ⟨kA, kc, vA, vc, hcell 0 (by omega), hcell 1 (by omega), hcell 2 (by omega), hcell 3 (by omega), s1, s2⟩
/-- A slice of slices of bytes. -/
structure Kys (W : World) (A : Option Addr) (c : Nat) (ks : List (List UInt8)) : Prop where
  rd : 0 < ks.length → ∃ b off, A = some ⟨b, off, none⟩ ∧ ∀ i bs, ks[i]? = some bs → ∃ kA kc, W.cell? ⟨b, off + i, none⟩ = some (.slice kA bs.length kc) ∧ Sl W kA kc bs
  le : ks.length ≤ c
  cap : c ≤ 9223372036854775807
theorem Kys.ext {w w' : World} {A : Option Addr} {c : Nat} {ks : List (List UInt8)} (h : Kys w A c ks) (he : Ext w w') : Kys w' A c ks :=
  ⟨fun hn => by obtain ⟨b, off, hA, hc⟩ := h.rd hn; exact ⟨b, off, hA, fun i x hx => by obtain ⟨kA, kc, h1, h2⟩ := hc i x hx; exact ⟨kA, kc, he.cell h1, h2.ext he⟩⟩, h.le, h.cap⟩
theorem Kys.take {w : World} {A : Option Addr} {c : Nat} {ks : List (List UInt8)} (h : Kys w A c ks) (k : Nat) : Kys w A c (ks.take k) :=
  ⟨fun hn => by
    obtain ⟨b, off, hA, hc⟩ := h.rd (by rw [List.length_take] at hn; omega)
    exact ⟨b, off, hA, fun i x hx => hc i x (by rw [List.getElem?_take] at hx; split at hx <;> simp_all)⟩, by have := h.le; simp; omega, h.cap⟩
theorem kys_of_trod {H : Type} {enc : TypeId × Value → H} {W : World} {n : Nat} {v : Value} {y : DataW H × List MemPlace} (h : DataW.trod enc Try.prog W 0 (fun _ => true) true n 27 [v] = some y)
    (hz : ∀ k ∈ y.1.weights Try.prog 27, (decide (k ≤ reachBytes)) = true) : ∃ (A : Option Addr) (c : Nat) (l : List (List UInt8)), v = .slice A l.length c ∧ Kys W A c l := by
  rcases open_slice Try.underlying27 h with ⟨hcs, _⟩ | ⟨a, len, cap, m, q, D, Pl, hcs, _, hl, hm, hmm, hx, hi⟩
  · injection hcs with hcs _
    subst hcs
    exact ⟨none, 0, [], rfl, ⟨fun h => absurd h (by simp), by simp, by decide⟩⟩
  · injection hcs with hcs _
    subst hcs
    rw [hx] at hz
    simp only [if_true] at hmm
    subst hmm
    have hw : ∀ k ∈ DataW.weights Try.prog 27 (.slice ((List.range len).map D) ((List.range (m - len)).map fun j => D (len + j))), (decide (k ≤ reachBytes)) = true := hz
    simp only [DataW.weights, Try.underlying27, List.mem_cons, List.mem_append, List.length_map, List.length_range] at hw
    have hit : ∀ i, i < len → ∃ (bs : List UInt8) (kA : Option Addr) (kc : Nat), W.cell? (a.add i) = some (.slice kA bs.length kc) ∧ Sl W kA kc bs := fun i hil => by
      obtain ⟨cs, hc, ht⟩ := hi i (by omega)
      rw [show Try.prog.cellsOf 24 = 1 from by kernel_rfl, Nat.mul_one] at hc
      obtain ⟨_, hcl, hat⟩ := World.cells?_some hc
      match cs, hcl with
      | [u], _ =>
      obtain ⟨kA, kc, bs, rfl, s1⟩ := slv_of_trod ht (fun k hk => hw k (.inr (.inl (weightsAll_of_mem (List.mem_map.2 ⟨i, by simpa using hil, rfl⟩) k hk))))
      refine ⟨bs, kA, kc, ?_, s1⟩
      have := hat 0 (by decide)
      rwa [add_add, Nat.add_zero] at this
    let f : Nat → List UInt8 := fun i => if hil : i < len then (hit i hil).choose else []
    refine ⟨some a, m, (List.range len).map f, by simp, ⟨fun hn => ?_, by simpa using hl, by simp [maxLen] at hm; omega⟩⟩
    have hn0 : 0 < len := by simpa using hn
    obtain ⟨b, off, spot⟩ := a
    have hspot : spot = none := by
      obtain ⟨_, _, _, hc, _⟩ := hit 0 hn0
      simpa [Addr.add] using World.cell?_spot hc
    subst hspot
    refine ⟨b, off, rfl, fun i x hx => ?_⟩
    have hil : i < len := by
      have := (List.getElem?_eq_some_iff.1 hx).1
      simpa using this
    obtain rfl : f i = x := by
      rw [List.getElem?_map, List.getElem?_range hil] at hx
      simpa using hx
    obtain ⟨kA, kc, hc, s1⟩ := (hit i hil).choose_spec
    have hfi : f i = (hit i hil).choose := by simp only [f, hil, dif_pos]
    rw [hfi]
    exact ⟨kA, kc, (congrArg W.cell? (Addr.add_lit b off i).symm).trans hc, s1⟩
/-- The cells of a page that has come in. -/
theorem page_of_cells {H : Type} {enc : TypeId × Value → H} {W : World} {n : Nat} {l : List Value} {x : DataW H × List MemPlace} (h : DataW.trod enc Try.prog W 0 (fun _ => true) true n 26 l = some x)
    (hz : ∀ k ∈ x.1.weights Try.prog 26, (decide (k ≤ reachBytes)) = true) : ∃ (q : Pg) (iA : Option Addr) (ic : Nat) (dA : Option Addr) (dc : Nat), l = [.int .i64 q.kind, .int .i64 q.level, .slice iA q.items.length ic, .slice dA q.data.length dc, .int .i64 q.next] ∧ Its W iA ic q.items ∧ Sl W dA dc q.data ∧ q.items.length ≤ 2199023255488 := by
  obtain ⟨ys, m, hx, hl, hy, hf⟩ := fields_of_trod Try.underlying26 (by kernel_rfl) cellsPg h
  obtain ⟨v0, y0, c0, e0, t0⟩ := hf 0 _ rfl
  obtain ⟨v1, y1, c1, e1, t1⟩ := hf 1 _ rfl
  obtain ⟨v2, y2, c2, e2, t2⟩ := hf 2 _ rfl
  obtain ⟨v3, y3, c3, e3, t3⟩ := hf 3 _ rfl
  obtain ⟨v4, y4, c4, e4, t4⟩ := hf 4 _ rfl
  match l, hl, c0, c1, c2, c3, c4, ys, hy, e0, e1, e2, e3, e4, hx with
  | [_, _, _, _, _], _, rfl, rfl, rfl, rfl, rfl, [_, _, _, _, _], _, rfl, rfl, rfl, rfl, rfl, hx =>
  rw [hx] at hz
  obtain ⟨a, ha, _⟩ := DataW.trod_int Try.underlying3 t0
  obtain ⟨b, hb, _⟩ := DataW.trod_int Try.underlying3 t1
  obtain ⟨c, hc, _⟩ := DataW.trod_int Try.underlying3 t4
  obtain ⟨iA, ic, l, rfl, s2, s4⟩ := its_of_trod t2 (fun k hk => hz k (by simp [DataW.weights, Try.underlying26, DataW.weightsEach]; exact .inr (.inr (.inl hk))))
  obtain ⟨dA, dc, data, rfl, s3⟩ := slv_of_trod t3 (fun k hk => hz k (by simp [DataW.weights, Try.underlying26, DataW.weightsEach]; exact .inr (.inr (.inr (.inl hk)))))
  injection ha with ha _
  injection hb with hb _
  injection hc with hc _
  subst ha hb hc
  exact ⟨⟨a, b, l, data, c⟩, iA, ic, dA, dc, rfl, s2, s3, s4⟩
/-- The value of a page that has come in. -/
theorem page_of_trod {H : Type} {enc : TypeId × Value → H} {W : World} {b0 : Nat} {v : Value} {d : DataW H} {p : List MemPlace} (hv : Value.okWide Try.prog W .any b0 26 v) (h0 : DataW.Trod enc Try.prog W 0 (fun _ => true) true 26 v d p)
    (hz : ∀ k ∈ d.weights Try.prog 26, (decide (k ≤ reachBytes)) = true) : ∃ q : Pg, PgV W v q := by
  obtain ⟨cs, rfl, _⟩ := okWide_struct Try.underlying26 hv
  obtain ⟨l⟩ := cs
  obtain ⟨n, hf0⟩ := h0
  obtain ⟨q, iA, ic, dA, dc, rfl, s1, s2, _⟩ := page_of_cells (x := (d, p)) hf0 hz
  exact ⟨q, ⟨iA, ic, dA, dc, rfl, s1, s2⟩⟩
/-- The value of an item that has come in. -/
theorem item_of_trod {H : Type} {enc : TypeId × Value → H} {W : World} {b0 : Nat} {v : Value} {d : DataW H} {p : List MemPlace} (hv : Value.okWide Try.prog W .any b0 51 v) (h0 : DataW.Trod enc Try.prog W 0 (fun _ => true) true 51 v d p)
    (hz : ∀ k ∈ d.weights Try.prog 51, (decide (k ≤ reachBytes)) = true) : ∃ q : It, ItV W v q := by
  obtain ⟨cs, rfl, _⟩ := okWide_struct Try.underlying51 hv
  obtain ⟨l⟩ := cs
  obtain ⟨n, hf0⟩ := h0
  obtain ⟨i, kA, vA, kc, vc, rfl, s1, s2⟩ := item_of_cells (x := (d, p)) hf0 hz
  exact ⟨i, ⟨kA, kc, vA, vc, rfl, s1, s2⟩⟩
/-- Two neighbours, a separator, and to which one is lent. -/
structure TwoV (w : World) (v : Value) (p q : Pg) (sep : List UInt8) (toR : Bool) : Prop where
  mk_ ::
  ex : ∃ iA ic dA dc jA jc eA ec sA sc, v = .agg #[.int .i64 p.kind, .int .i64 p.level, .slice iA p.items.length ic, .slice dA p.data.length dc, .int .i64 p.next, .int .i64 q.kind, .int .i64 q.level, .slice jA q.items.length jc, .slice eA q.data.length ec, .int .i64 q.next, .slice sA sep.length sc, .bool toR] ∧
    Its w iA ic p.items ∧ Sl w dA dc p.data ∧ Its w jA jc q.items ∧ Sl w eA ec q.data ∧ Sl w sA sc sep ∧ p.items.length ≤ 2199023255488 ∧ q.items.length ≤ 2199023255488
theorem cellsTwo : Try.prog.cellsOf 40 = 12 := by kernel_rfl
theorem two_of_trod {H : Type} {enc : TypeId × Value → H} {W : World} {b0 : Nat} {v : Value} {d : DataW H} {p : List MemPlace} (hv : Value.okWide Try.prog W .any b0 40 v) (h0 : DataW.Trod enc Try.prog W 0 (fun _ => true) true 40 v d p)
    (hz : ∀ k ∈ d.weights Try.prog 40, (decide (k ≤ reachBytes)) = true) : ∃ (p q : Pg) (sep : List UInt8) (toR : Bool), TwoV W v p q sep toR := by
  obtain ⟨cs, rfl, _⟩ := okWide_struct Try.underlying40 hv
  obtain ⟨l⟩ := cs
  obtain ⟨n, hf0⟩ := h0
  have hf1 : DataW.trod enc Try.prog W 0 (fun _ => true) true n 40 l = some (d, p) := hf0
  obtain ⟨ys, m, _, hx, hl, hy, hg⟩ := DataW.trod_struct Try.underlying40 hf1
  rw [cellsTwo] at hl
  have g0 := hg 0 _ rfl
  have g1 := hg 1 _ rfl
  have g2 := hg 2 _ rfl
  have g3 := hg 3 _ rfl
  clear hg hf1 hf0
  match l, hl, ys, hy, g0, g1, g2, g3, hx with
  | [a0, a1, a2, a3, a4, a5, a6, a7, a8, a9, a10, a11], _, [y0, y1, y2, y3], _, g0, g1, g2, g3, hx =>
  injection hx with hd hp
  rw [hd] at hz
  have t0 : DataW.trod enc Try.prog W 0 (fun _ => true) true m 26 [a0, a1, a2, a3, a4] = some y0 := g0
  have t1 : DataW.trod enc Try.prog W 0 (fun _ => true) true m 26 [a5, a6, a7, a8, a9] = some y1 := g1
  have t2 : DataW.trod enc Try.prog W 0 (fun _ => true) true m 24 [a10] = some y2 := g2
  have t3 : DataW.trod enc Try.prog W 0 (fun _ => true) true m 4 [a11] = some y3 := g3
  obtain ⟨p1, iA, ic, dA, dc, e1, s1, s2, s3⟩ := page_of_cells t0 (fun k hk => hz k (by simp [DataW.weights, Try.underlying40, DataW.weightsEach]; exact .inl hk))
  obtain ⟨p2, jA, jc, eA, ec, e2, s4, s5, s6⟩ := page_of_cells t1 (fun k hk => hz k (by simp [DataW.weights, Try.underlying40, DataW.weightsEach]; exact .inr (.inl hk)))
  obtain ⟨sA, sc, sep, rfl, s7⟩ := slv_of_trod t2 (fun k hk => hz k (by simp [DataW.weights, Try.underlying40, DataW.weightsEach]; exact .inr (.inr (.inl hk))))
  obtain ⟨b, hb, _⟩ := DataW.trod_bool Try.underlying4 t3
  injection hb with hb _
  subst hb
  simp only [List.cons.injEq, and_true] at e1 e2
  obtain ⟨rfl, rfl, rfl, rfl, rfl⟩ := e1
  obtain ⟨rfl, rfl, rfl, rfl, rfl⟩ := e2
  exact ⟨p1, p2, sep, b, ⟨iA, ic, dA, dc, jA, jc, eA, ec, sA, sc, rfl, s1, s2, s4, s5, s7, s3, s6⟩⟩
end Go.Proofs.Ytjjbckdiojleeaa
