/- Layer 10: arguments of types Begin and []Op opened. No condition. -/
import Derived.Test.YtaalhicdeibodaaRargf
import Derived.Test.YtaalhicdeibodaaPw
namespace Go.Proofs.Ytaalhicdeibodaa
set_option linter.unusedVariables false
open Go.ChangeShapes Go.WideShapes Go.ChangeAt Go.RowKit Go.Joins Go.Deep
theorem cellsOpP : Try.prog.cellsOf 33 = 3 := by kernel_rfl
theorem cellsBgP : Try.prog.cellsOf 24 = 4 := by kernel_rfl
theorem bytesIP : Try.prog.bytesOf 3 = 8 := by kernel_rfl
/-- One step of a script. -/
structure Opp where
  k : Int
  n : Int
  t : Int
def Opp.v (o : Opp) : Value := .agg #[.int .i64 o.k, .int .i64 o.n, .int .i64 o.t]
/-- A row of steps that can be read. -/
structure OPP (w : World) (A : Option Addr) (c : Nat) (l : List Opp) : Prop where
  rd : 0 < l.length → ∃ b off, A = some ⟨b, off, none⟩ ∧ b < w.heap.size ∧ ∀ i o, l[i]? = some o → w.cell? ⟨b, off + i * 3, none⟩ = some (.int .i64 o.k) ∧ w.cell? ⟨b, off + i * 3 + 1, none⟩ = some (.int .i64 o.n) ∧ w.cell? ⟨b, off + i * 3 + 2, none⟩ = some (.int .i64 o.t)
  le : l.length ≤ c
  cap : c ≤ 9223372036854775807
theorem OPP.ext {w w' : World} {A : Option Addr} {c : Nat} {l : List Opp} (h : OPP w A c l) (he : Ext w w') : OPP w' A c l := by
  refine ⟨fun hn => ?_, h.le, h.cap⟩
  obtain ⟨b, off, hA, hb, hc⟩ := h.rd hn
  exact ⟨b, off, hA, Nat.lt_of_lt_of_le hb he.size, fun i o ho => ⟨he.cell (hc i o ho).1, he.cell (hc i o ho).2.1, he.cell (hc i o ho).2.2⟩⟩
theorem OPP.cut {w : World} {A : Option Addr} {c : Nat} {l : List Opp} (h : OPP w A c l) (k : Nat) : OPP w A c (l.take k) := by
  refine ⟨fun hn => ?_, ?_, h.cap⟩
  · have hn' : 0 < l.length := by simp only [List.length_take] at hn; omega
    obtain ⟨b, off, hA, hb, hc⟩ := h.rd hn'
    refine ⟨b, off, hA, hb, fun i o ho => hc i o ?_⟩
    rw [List.getElem?_take] at ho
    split at ho
    · exact ho
    · cases ho
  · have := h.le
    simp only [List.length_take]
    omega
theorem lt_of_cellP {w : World} {b off : Nat} {v : Value} (h : w.cell? ⟨b, off, none⟩ = some v) : b < w.heap.size := by
  by_cases hb : b < w.heap.size
  · exact hb
  · exfalso
    have : w.heap[b]? = none := Array.getElem?_eq_none (by omega)
    simp [World.cell?, this] at h
theorem opp_of_cells {H : Type} {enc : TypeId × Value → H} {W : World} {n : Nat} {cs : List Value} {x : DataW H × List MemPlace} (h : DataW.trod enc Try.prog W 0 (fun _ => true) true n 33 cs = some x) : ∃ o : Opp, cs = [.int .i64 o.k, .int .i64 o.n, .int .i64 o.t] := by
  obtain ⟨ys, m, hx, hl, hy, hf⟩ := fields_of_trodR Try.underlying33 (by kernel_rfl) cellsOpP h
  obtain ⟨v0, y0, c0, e0, t0⟩ := hf 0 _ rfl
  obtain ⟨v1, y1, c1, e1, t1⟩ := hf 1 _ rfl
  obtain ⟨v2, y2, c2, e2, t2⟩ := hf 2 _ rfl
  match cs, hl, c0, c1, c2 with
  | [_, _, _], _, rfl, rfl, rfl =>
  obtain ⟨a0, h0, d0, g0⟩ := DataW.trod_int Try.underlying3 t0
  obtain ⟨a1, h1, d1, g1⟩ := DataW.trod_int Try.underlying3 t1
  obtain ⟨a2, h2, d2, g2⟩ := DataW.trod_int Try.underlying3 t2
  injection h0 with h0 _
  injection h1 with h1 _
  injection h2 with h2 _
  subst h0 h1 h2
  exact ⟨⟨a0, a1, a2⟩, rfl⟩
theorem opps_of_trod {H : Type} {enc : TypeId × Value → H} {W : World} {n : Nat} {v : Value} {y : DataW H × List MemPlace} (h : DataW.trod enc Try.prog W 0 (fun _ => true) true n 25 [v] = some y) : ∃ (A : Option Addr) (c : Nat) (l : List Opp), v = .slice A l.length c ∧ OPP W A c l := by
  rcases open_slice Try.underlying25 h with ⟨hcs, _⟩ | ⟨a, len, cap, m, q, D, Pl, hcs, _, hl, hm, hmm, hx, hi⟩
  · injection hcs with hcs _
    subst hcs
    exact ⟨none, 0, [], rfl, ⟨fun h => absurd h (by simp), by simp, by decide⟩⟩
  · injection hcs with hcs _
    subst hcs
    simp only [if_true] at hmm
    subst hmm
    have hit : ∀ i, i < len → ∃ x : Opp, W.cells? 0 (a.add (i * 3)) 3 = some [.int .i64 x.k, .int .i64 x.n, .int .i64 x.t] := fun i hil => by
      obtain ⟨cs, hc, ht⟩ := hi i (by omega)
      rw [cellsOpP] at hc
      obtain ⟨x, rfl⟩ := opp_of_cells ht
      exact ⟨x, hc⟩
    let f : Nat → Opp := fun i => if hil : i < len then (hit i hil).choose else ⟨0, 0, 0⟩
    refine ⟨some a, m, (List.range len).map f, by simp, ⟨fun hn => ?_, by simpa using hl, by simp [maxLen] at hm; omega⟩⟩
    have hn0 : 0 < len := by simpa using hn
    obtain ⟨b, off, spot⟩ := a
    have hspot : spot = none := by
      obtain ⟨_, hc⟩ := hit 0 hn0
      obtain ⟨_, _, hat⟩ := World.cells?_some hc
      have := hat 0 (by decide)
      simpa [Addr.add] using World.cell?_spot this
    subst hspot
    have hcell : ∀ i r, ((List.range len).map f)[i]? = some r → W.cell? ⟨b, off + i * 3, none⟩ = some (.int .i64 r.k) ∧ W.cell? ⟨b, off + i * 3 + 1, none⟩ = some (.int .i64 r.n) ∧ W.cell? ⟨b, off + i * 3 + 2, none⟩ = some (.int .i64 r.t) := fun i x hx => by
      have hil : i < len := by
        have := (List.getElem?_eq_some_iff.1 hx).1
        simpa using this
      obtain rfl : f i = x := by
        rw [List.getElem?_map, List.getElem?_range hil] at hx
        simpa using hx
      have hc := (hit i hil).choose_spec
      have hfi : f i = (hit i hil).choose := by simp only [f, hil, dif_pos]
      rw [hfi]
      obtain ⟨_, _, hat⟩ := World.cells?_some hc
      have a0 := hat 0 (by decide)
      have a1 := hat 1 (by decide)
      have a2 := hat 2 (by decide)
      rw [add_add, Addr.add_lit, ← Nat.add_assoc] at a0 a1 a2
      exact ⟨by simpa using a0, by simpa using a1, by simpa using a2⟩
    obtain ⟨r0, hr0⟩ : ∃ r, ((List.range len).map f)[0]? = some r := ⟨_, List.getElem?_eq_getElem (by simpa using hn0)⟩
    exact ⟨b, off, rfl, lt_of_cellP (hcell 0 r0 hr0).1, hcell⟩
theorem intsP_of_trod {H : Type} {enc : TypeId × Value → H} {W : World} {v : Value} {y : DataW H × List MemPlace} {n : Nat} (hf : DataW.trod enc Try.prog W 0 (fun _ => true) true n 22 [v] = some y)
    (hw : ∀ k ∈ y.1.weights Try.prog 22, (decide (k ≤ reachBytes)) = true) : ∃ (A : Option Addr) (c : Nat) (zs : List Int), v = .slice A zs.length c ∧ NLi W A c zs ∧ zs.length ≤ 17592186043904 := by
  rcases open_ints Try.underlying22 Try.underlying3 (by kernel_rfl) hf with ⟨hcs, hx⟩ | ⟨x, l, c, zs, hcs, _, hl, hm, hz, hx, hcell, hwz⟩
  · injection hcs with hcs _
    subst hcs
    exact ⟨none, 0, [], rfl, ⟨fun h => absurd h (by simp), by simp, fun r h => by cases h⟩, by simp⟩
  · injection hcs with hcs _
    subst hcs
    simp only [if_true] at hz
    have hlt : (zs.take l).length = l := by simp; omega
    obtain ⟨d, p⟩ := y
    injection hx with hd _
    subst hd
    have hcb := of_decide_eq_true (hw _ (by simp [DataW.weights, Try.underlying22]; exact .inl rfl))
    rw [bytesIP] at hcb
    have hrb : reachBytes = 140737488351232 := by decide
    have hlc : l ≤ 17592186043904 := by
      simp [lits] at hcb
      omega
    refine ⟨some x, c, zs.take l, by rw [hlt], ⟨fun hn => ?_, by omega, fun z hz2 => i64_of_wfR (hwz z (List.mem_of_mem_take hz2))⟩, by omega⟩
    obtain ⟨b, off, spot⟩ := x
    have hspot : spot = none := by
      have := hcell 0 (by omega)
      simpa [Addr.add] using World.cell?_spot this
    subst hspot
    refine ⟨b, off, rfl, fun i z hi => ?_⟩
    have hi2 : i < l := by rw [← hlt]; exact (List.getElem?_eq_some_iff.1 hi).1
    have := hcell i (by omega)
    have e : (⟨b, off, none⟩ : Addr).add i = ⟨b, off + i, none⟩ := by unfold Addr.add; split <;> simp_all
    rw [e] at this
    rw [this]
    rw [List.getElem?_take, if_pos hi2] at hi
    rw [List.getD_eq_getElem?_getD, hi]
    rfl
/-- How the law begins, as a value. -/
structure BgV (w : World) (v : Value) (b : Bgn) : Prop where
  mk_ ::
  ex : ∃ A c, v = .agg #[.bool b.ld, .int .i64 b.pages, .int .i64 b.refs, .slice A b.cs.length c] ∧ NLi w A c b.cs ∧ b.cs.length ≤ 17592186043904
set_option maxRecDepth 100000 in
theorem bgn_of_trod {H : Type} {enc : TypeId × Value → H} {W : World} {b0 : Nat} {v : Value} {d : DataW H} {p : List MemPlace} (hv : Value.okWide Try.prog W .any b0 24 v) (h0 : DataW.Trod enc Try.prog W 0 (fun _ => true) true 24 v d p)
    (hz : ∀ k ∈ d.weights Try.prog 24, (decide (k ≤ reachBytes)) = true) : ∃ b : Bgn, BgV W v b := by
  obtain ⟨cs, rfl, _⟩ := okWide_struct Try.underlying24 hv
  obtain ⟨l⟩ := cs
  obtain ⟨n, hf0⟩ := h0
  have hf1 : DataW.trod enc Try.prog W 0 (fun _ => true) true n 24 l = some (d, p) := hf0
  obtain ⟨ys, m, hx, hl, hy, hf⟩ := fields_of_trodR Try.underlying24 (by kernel_rfl) cellsBgP hf1
  clear hf1 hf0
  obtain ⟨v0, y0, c0, e0, t0⟩ := hf 0 _ rfl
  obtain ⟨v1, y1, c1, e1, t1⟩ := hf 1 _ rfl
  obtain ⟨v2, y2, c2, e2, t2⟩ := hf 2 _ rfl
  obtain ⟨v3, y3, c3, e3, t3⟩ := hf 3 _ rfl
  match l, hl, c0, c1, c2, c3, ys, hy, e0, e1, e2, e3, hx with
  | [_, _, _, _], _, rfl, rfl, rfl, rfl, [_, _, _, _], _, rfl, rfl, rfl, rfl, hx =>
  have hx' : d = _ := hx
  rw [hx'] at hz
  obtain ⟨a, ha, _⟩ := DataW.trod_bool Try.underlying4 t0
  obtain ⟨b, hb, _⟩ := DataW.trod_int Try.underlying3 t1
  obtain ⟨c, hc, _⟩ := DataW.trod_int Try.underlying3 t2
  obtain ⟨A, cc, zs, rfl, s1, s2⟩ := intsP_of_trod t3 (fun k hk => hz k (by simp [DataW.weights, Try.underlying24, DataW.weightsEach]; exact .inr (.inr (.inr hk))))
  injection ha with ha _
  injection hb with hb _
  injection hc with hc _
  subst ha hb hc
  exact ⟨⟨a, b, c, zs⟩, ⟨A, cc, rfl, s1, s2⟩⟩
end Go.Proofs.Ytaalhicdeibodaa
