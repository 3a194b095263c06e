/- Arguments of types api.Page, api.Item and [][]byte opened. No condition. -/
import Derived.Test.YtbjfgnkjmfcokaaArgsr
import Derived.Test.YtbjfgnkjmfcokaaPage
import Derived.Deep.Slices
import Derived.Deep.Fields
namespace Go.Proofs.Ytbjfgnkjmfcokaa
set_option linter.unusedVariables false
open Go.ChangeShapes Go.WideShapes Go.ChangeAt Go.RowKit Go.Joins Go.Deep
/-- The fields of a struct of one-cell fields, read one by one. -/
theorem fields_of_trod {H : Type} {enc : TypeId × Value → H} {W : World} {base : Nat} {sp : Nat → Bool} {held : Bool} {t : TypeId} {fs : Array Field} {fuel : Nat} {cs : List Value} {x : DataW H × List MemPlace} (ht : Try.prog.underlying t = some (.struct fs)) (hone : oneCellFields Try.prog fs = true) (hC : Try.prog.cellsOf t = fs.size)
    (h : DataW.trod enc Try.prog W base sp held fuel t cs = some x) : ∃ (ys : List (DataW H × List MemPlace)) (n : Nat), x.1 = .agg (ys.map (·.1)) ∧ cs.length = fs.size ∧ ys.length = fs.size ∧
      ∀ (j : Nat) (f : Field), fs[j]? = some f → ∃ v y, cs[j]? = some v ∧ ys[j]? = some y ∧ DataW.trod enc Try.prog W base sp held n f.type [v] = some y := by
  obtain ⟨ys, n, _, hx, hl, hy, hg⟩ := DataW.trod_struct ht h
  refine ⟨ys, n, by rw [hx], by rw [hl, hC], hy, fun j f hj => ?_⟩
  obtain ⟨ho, hk⟩ := hone_of hone j f hj
  have hj1 : j < fs.size := (Array.getElem?_eq_some_iff.1 hj).1
  have h1 := hg j f hj
  rw [ho, hk, List.drop_eq_getElem_cons (by rw [hl, hC]; exact hj1)] at h1
  exact ⟨_, _, List.getElem?_eq_getElem (by rw [hl, hC]; exact hj1), List.getElem?_eq_getElem (by rw [hy]; exact hj1), h1.trans (List.getElem?_eq_getElem (by rw [hy]; exact hj1))⟩
theorem weightsAll_of_mem {H : Type} {P : Program} {e : TypeId} {d : DataW H} : ∀ {l : List (DataW H)}, d ∈ l → ∀ n ∈ d.weights P e, n ∈ DataW.weightsAll P e l
  | [], h, _, _ => by cases h
  | x :: l, h, n, hn => by
    simp only [DataW.weightsAll, List.mem_append]
    rcases List.mem_cons.1 h with rfl | h
    · exact .inl hn
    · exact .inr (weightsAll_of_mem h n hn)
/-- A slice of slices of bytes. -/
structure Kys (W : World) (A : Option Addr) (c : Nat) (ks : List (List UInt8)) : Prop where
  rd : 0 < ks.length → ∃ b off, A = some ⟨b, off, none⟩ ∧ ∀ i bs, ks[i]? = some bs → ∃ kA kc, W.cell? ⟨b, off + i, none⟩ = some (.slice kA bs.length kc) ∧ Sl W kA kc bs
  le : ks.length ≤ c
  cap : c ≤ 9223372036854775807
theorem Kys.ext {w w' : World} {A : Option Addr} {c : Nat} {ks : List (List UInt8)} (h : Kys w A c ks) (he : Ext w w') : Kys w' A c ks :=
  ⟨fun hn => by obtain ⟨b, off, hA, hc⟩ := h.rd hn; exact ⟨b, off, hA, fun i x hx => by obtain ⟨kA, kc, h1, h2⟩ := hc i x hx; exact ⟨kA, kc, he.cell h1, h2.ext he⟩⟩, h.le, h.cap⟩
theorem Kys.take {w : World} {A : Option Addr} {c : Nat} {ks : List (List UInt8)} (h : Kys w A c ks) (k : Nat) : Kys w A c (ks.take k) :=
  ⟨fun hn => by
    obtain ⟨b, off, hA, hc⟩ := h.rd (by rw [List.length_take] at hn; omega)
    exact ⟨b, off, hA, fun i x hx => hc i x (by rw [List.getElem?_take] at hx; split at hx <;> simp_all)⟩, by have := h.le; simp; omega, h.cap⟩
theorem kys_of_trod {H : Type} {enc : TypeId × Value → H} {W : World} {n : Nat} {v : Value} {y : DataW H × List MemPlace} (h : DataW.trod enc Try.prog W 0 (fun _ => true) true n 64 [v] = some y)
    (hz : ∀ k ∈ y.1.weights Try.prog 64, (decide (k ≤ reachBytes)) = true) : ∃ (A : Option Addr) (c : Nat) (l : List (List UInt8)), v = .slice A l.length c ∧ Kys W A c l := by
  rcases open_slice Try.underlying64 h with ⟨hcs, _⟩ | ⟨a, len, cap, m, q, D, Pl, hcs, _, hl, hm, hmm, hx, hi⟩
  · injection hcs with hcs _
    subst hcs
    exact ⟨none, 0, [], rfl, ⟨fun h => absurd h (by simp), by simp, by decide⟩⟩
  · injection hcs with hcs _
    subst hcs
    rw [hx] at hz
    simp only [if_true] at hmm
    subst hmm
    have hw : ∀ k ∈ DataW.weights Try.prog 64 (.slice ((List.range len).map D) ((List.range (m - len)).map fun j => D (len + j))), (decide (k ≤ reachBytes)) = true := hz
    simp only [DataW.weights, Try.underlying64, List.mem_cons, List.mem_append, List.length_map, List.length_range] at hw
    have hit : ∀ i, i < len → ∃ (bs : List UInt8) (kA : Option Addr) (kc : Nat), W.cell? (a.add i) = some (.slice kA bs.length kc) ∧ Sl W kA kc bs := fun i hil => by
      obtain ⟨cs, hc, ht⟩ := hi i (by omega)
      rw [show Try.prog.cellsOf 30 = 1 from by kernel_rfl, Nat.mul_one] at hc
      obtain ⟨_, hcl, hat⟩ := World.cells?_some hc
      match cs, hcl with
      | [u], _ =>
      obtain ⟨kA, kc, bs, rfl, s1⟩ := slv_of_trod ht (fun k hk => hw k (.inr (.inl (weightsAll_of_mem (List.mem_map.2 ⟨i, by simpa using hil, rfl⟩) k hk))))
      refine ⟨bs, kA, kc, ?_, s1⟩
      have := hat 0 (by decide)
      rwa [add_add, Nat.add_zero] at this
    let f : Nat → List UInt8 := fun i => if hil : i < len then (hit i hil).choose else []
    refine ⟨some a, m, (List.range len).map f, by simp, ⟨fun hn => ?_, by simpa using hl, by simp [maxLen] at hm; omega⟩⟩
    have hn0 : 0 < len := by simpa using hn
    obtain ⟨b, off, spot⟩ := a
    have hspot : spot = none := by
      obtain ⟨_, _, _, hc, _⟩ := hit 0 hn0
      simpa [Addr.add] using World.cell?_spot hc
    subst hspot
    refine ⟨b, off, rfl, fun i x hx => ?_⟩
    have hil : i < len := by
      have := (List.getElem?_eq_some_iff.1 hx).1
      simpa using this
    obtain rfl : f i = x := by
      rw [List.getElem?_map, List.getElem?_range hil] at hx
      simpa using hx
    obtain ⟨kA, kc, hc, s1⟩ := (hit i hil).choose_spec
    have hfi : f i = (hit i hil).choose := by simp only [f, hil, dif_pos]
    rw [hfi]
    exact ⟨kA, kc, (congrArg W.cell? (Addr.add_lit b off i).symm).trans hc, s1⟩
/-- Two neighbours, a separator, and to which one is lent. -/
structure TwoV (w : World) (v : Value) (p q : Pg) (sep : List UInt8) (toR : Bool) : Prop where
  mk_ ::
  ex : ∃ iA ic dA dc jA jc eA ec sA sc, v = .agg #[.int .i64 p.kind, .int .i64 p.level, .slice iA p.items.length ic, .slice dA p.data.length dc, .int .i64 p.next, .int .i64 q.kind, .int .i64 q.level, .slice jA q.items.length jc, .slice eA q.data.length ec, .int .i64 q.next, .slice sA sep.length sc, .bool toR] ∧
    Its w iA ic p.items ∧ Sl w dA dc p.data ∧ Its w jA jc q.items ∧ Sl w eA ec q.data ∧ Sl w sA sc sep ∧ p.items.length ≤ 2199023255488 ∧ q.items.length ≤ 2199023255488
end Go.Proofs.Ytbjfgnkjmfcokaa
