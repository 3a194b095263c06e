/- Layer 5, at uint16: what the law's book needs: marks, growth. No condition. -/
import Derived.Test.YtffapgemacbdjaaRlbd
import Derived.Test.YtffapgemacbdjaaAparw
namespace Go.Proofs.Ytffapgemacbdjaa
open Go.RowKit Go.Proofs Go.Shelf
set_option linter.unusedVariables false
/-- The mark k of list i. -/
abbrev mkd (i k : Nat) : List Value := [.int .u16 ((i : Int)), .int .u16 ((k : Int))]
theorem len_mkd (i k : Nat) : (mkd i k).length = 2 := rfl
theorem one_mkd (i k : Nat) : ∀ u ∈ mkd i k, u.oneCell' = true := by
  intro u hu
  simp only [mkd, List.mem_cons, List.not_mem_nil, or_false] at hu
  rcases hu with rfl | rfl <;> rfl
/-- The headers of lists that were told. -/
def hdsOf (ts : List Tld) : List Hd := ts.map (fun t => ⟨t.A, t.L.length, t.c⟩)
theorem hdsOf_v (ts : List Tld) : (hdsOf ts).map Hd.v = ts.map Tld.v := by
  unfold hdsOf
  rw [List.map_map]
  rfl
theorem hdsOf_at {ts : List Tld} {j : Nat} {h : Hd} (hj : (hdsOf ts)[j]? = some h) : ∃ t, ts[j]? = some t ∧ h = ⟨t.A, t.L.length, t.c⟩ := by
  unfold hdsOf at hj
  rw [List.getElem?_map] at hj
  cases ht : ts[j]? with
  | none => rw [ht] at hj; cases hj
  | some t => rw [ht] at hj; exact ⟨t, rfl, by simpa using hj.symm⟩
/-- Blocks of lists that were told. -/
abbrev TlD (ts : List Tld) : Nat → Obj → Prop := fun q _ => ∃ t ∈ ts, t.v.ownBlock = some q
theorem tld_blkd {B n c q : Nat} {A : Option Addr} {w : World} {ts : List Tld} (h : Toldd B n w A c ts) (hq : ∃ t ∈ ts, t.v.ownBlock = some q) : B ≤ q ∧ ∃ cs, w.heap[q]? = some (.cells cs 220 (0, 0)) := by
  obtain ⟨t, ht, hb⟩ := hq
  exact own_blk (h.tk t ht) hb
theorem tld_excd {B n c : Nat} {A : Option Addr} {w w' : World} {ts : List Tld} (h : Toldd B n w A c ts) (hx : Exc (TlD ts) w w') : Exc (fun q _ => B ≤ q) w w' := ⟨hx.os, hx.tape, hx.output, hx.size, fun k o hk hn => hx.block k o hk (fun e => hn (tld_blkd h e).1)⟩
/-- What stays while the lists that were told are marked and grown. -/
structure Restd (B xb n : Nat) (w : World) (s : Wk) : Prop where
  hd : w.heap[xb]? = some (.cells s.cells 120 (0, 0))
  row : w.ownsRow B 203 1 (.slice s.At s.ts.length s.ct) s.ts.length ((hdsOf s.ts).map Hd.v)
  ps : Setsd B n w s.p
  rs : Setsr B n w s.r
  wks : Walksd B n w s.Aw s.cw s.ws
theorem WorkAtd.rest {B xb n : Nat} {w w' : World} {s : Wk} (h : WorkAtd B xb n w s) (hx : Exc (TlD s.ts) w w') : Restd B xb n w' s := by
  have g := h.pt
  have hne : ∀ {a : Nat} {y : Array Value} {e : TypeId} {fr : Nat × Nat}, w.heap[a]? = some (.cells y e fr) → e ≠ 220 → ¬ ∃ t ∈ s.ts, t.v.ownBlock = some a := fun ha hne hq => by
    obtain ⟨_, cs, hb⟩ := tld_blkd g.tds hq
    exact blk_ne ha hb hne rfl
  have hro : ∀ {e : TypeId} {m k : Nat} {v : Value} {xs : List Value}, w.ownsRow B e m v k xs → e ≠ 220 → ∀ b o, v.ownBlock = some b → ¬ TlD s.ts b o := fun ho hn b o hb hq => by
    obtain ⟨_, cs, hb2⟩ := own_blk ho hb
    exact hne hb2 hn hq
  refine ⟨hx.blk h.hd (hne h.hd (by decide)), by rw [hdsOf_v]; exact own_out g.tds.row hx (hro g.tds.row (by decide)), ⟨fun i hi => ?_, g.ps.ge, g.ps.inj, g.ps.len⟩, ⟨fun i hi => ?_, g.rs.ge, g.rs.inj, g.rs.len⟩,
    own_out g.wks.row hx (hro g.wks.row (by decide)), fun x hm => ?_, fun x hm => ?_, g.wks.len, g.wks.cnt⟩
  · have a := g.ps.ps i hi
    exact ⟨hx.blk a.hd (hne a.hd (by decide)), own_out a.row hx (fun b o hb hq => by obtain ⟨t, ht, h1⟩ := hq; exact g.tp t ht b h1 i hi hb), a.wf, a.bd⟩
  · have a := g.rs.ps i hi
    exact ⟨hx.blk a.hd (hne a.hd (by decide)), own_out a.row hx (hro a.row (by decide)), a.wf, a.bd⟩
  · have a := g.wks.wk x hm
    exact ⟨hx.blk a.hd (hne a.hd (by decide)), own_out a.row hx (fun b o hb hq => by obtain ⟨t, ht, h1⟩ := hq; exact g.tw t ht b h1 x hm hb), a.wf, a.bd⟩
  · have a := g.wks.of x hm
    exact ⟨hx.blk a.hd (hne a.hd (by decide)), own_out a.row hx (hro a.row (by decide)), a.wf, a.bd⟩
theorem Restd.ext {B xb n : Nat} {w w' : World} {s : Wk} (h : Restd B xb n w s) (hx : Ext w w') : Restd B xb n w' s := ⟨hx.blk h.hd, own_ext h.row hx, h.ps.ext hx, h.rs.ext hx, h.wks.ext hx⟩
/-- A row of one cell each. -/
theorem row_at {w : World} {B m c j : Nat} {A : Option Addr} {e : TypeId} {vs : List Value} {v : Value} (hr : w.ownsRow B e 1 (.slice A m c) m vs) (hj : vs[j]? = some v) : ∃ g, A = some ⟨g, 0, none⟩ ∧ j < c ∧ ∀ W, Ext w W → W.cell? ⟨g, j, none⟩ = some v := by
  have hl : m = vs.length := by
    have h1 := hr.1
    simpa using h1.symm
  have hk := (List.getElem?_eq_some_iff.1 hj).1
  rcases hr.2 with ⟨hv, h0⟩ | ⟨g, cap, cur, hv, hb, hg, hle, _⟩
  · omega
  · injection hv with h1 h2 h3
    subst h1 h3
    refine ⟨g, rfl, by omega, fun W hW => ?_⟩
    have ho := own_ext hr hW
    rw [World.ownsRow.cellAt ho _ (by omega)]
    exact hj
theorem Toldd.apart {B n c : Nat} {A : Option Addr} {w : World} {ts : List Tld} (h : Toldd B n w A c ts) : ApartH (hdsOf ts) := fun j1 j2 h1 h2 q e1 e2 hne hq => by
  obtain ⟨t1, a1, rfl⟩ := hdsOf_at e1
  obtain ⟨t2, a2, rfl⟩ := hdsOf_at e2
  exact h.sep j1 j2 t1 t2 a1 a2 hne q hq
theorem Toldd.start {B n c : Nat} {A : Option Addr} {w : World} {ts : List Tld} (h : Toldd B n w A c ts) : Marked 220 2 B mkd (hdsOf ts) 0 0 w := Marked.start (fun j hh hj => by
  obtain ⟨t, a, rfl⟩ := hdsOf_at hj
  exact ⟨_, h.tk t (List.mem_of_getElem? a)⟩)
theorem hds_in {ts : List Tld} {i g : Nat} {h : Hd} (hh : (hdsOf ts)[i]? = some h) (hg : h.v.ownBlock = some g) : ∃ t ∈ ts, t.v.ownBlock = some g := by
  obtain ⟨t, a, rfl⟩ := hdsOf_at hh
  exact ⟨t, List.mem_of_getElem? a, hg⟩
/-- A told list's block, or a fresh one, has grown. -/
theorem exc_tld {D : Nat → Obj → Prop} {V w w' : World} {row : Option Nat} (h : Exc D V w) (hg : w.grownBy w' row) (hr : ∀ q, row = some q → (∀ o, D q o) ∨ V.heap.size ≤ q) : Exc D V w' :=
  ⟨hg.os.trans h.os, hg.tape.trans h.tape, hg.output.trans h.output, Nat.le_trans h.size hg.size, fun k o hk hd => by
    have h1 := h.block k o hk hd
    have h2 := (Array.getElem?_eq_some_iff.1 hk).1
    exact (hg.block k (Array.getElem?_eq_some_iff.1 h1).1 (fun e => by
      rcases hr k e.symm with h3 | h3
      · exact hd (h3 o)
      · omega)).trans h1⟩
/-- An append: the row that grows is an elder one, or fresh. -/
theorem push_at {w w' : World} {v v' : Value} {N m S : Nat} {b : Option Nat} (hc : (∃ A c, v = .slice A N c ∧ v' = .slice A m c ∧ w.grownBy w' v.ownBlock) ∨ (w.grownBy w' none ∧ ∀ g, v'.ownBlock = some g → w.heap.size ≤ g))
    (hS : S ≤ w.heap.size) (hv : ∀ q, v.ownBlock = some q → b = some q ∨ S ≤ q) : (∃ row, w.grownBy w' row ∧ ∀ q, row = some q → b = some q ∨ S ≤ q) ∧ ∀ q, v'.ownBlock = some q → b = some q ∨ S ≤ q := by
  rcases hc with ⟨A, c, rfl, rfl, hg⟩ | ⟨hg, hn⟩
  · exact ⟨⟨_, hg, hv⟩, fun q hq => hv q (by rw [← hq]; exact ownBlock_len _ _ _ _)⟩
  · exact ⟨⟨_, hg, fun q hq => by cases hq⟩, fun q hq => .inr (Nat.le_trans hS (hn q hq))⟩
/-- What Runs has told. -/
def RunsPd (L : List Rn) (z : Value) (V : World) : Prop := ∃ B' A c, z = .slice A L.length c ∧ RowRd B' V A c L
theorem RunsPd.lasts (L : List Rn) (z : Value) : Lasts Ext (RunsPd L z) := fun w' w2 ⟨B', A, c, h1, h2⟩ he => ⟨B', A, c, h1, h2.ext he⟩
/-- The told lists are forgotten. -/
theorem Restd.forget {B xb n : Nat} {w : World} {s : Wk} (h : Restd B xb n w s) : Restd B xb n (w.setCell ⟨xb, 7, none⟩ (.slice none 0 0)) { s with At := none, ct := 0, ts := [] } := by
  have hx := setCell_excr w xb 7 (.slice none 0 0)
  have h2 := heap_setCell_same w xb 7 _ _ (.slice none 0 0) h.hd
  rw [show s.cells.setIfInBounds 7 (.slice none 0 0) = ({ s with At := none, ct := 0, ts := [] } : Wk).cells by unfold Wk.cells; simp] at h2
  exact ⟨h2, World.ownsRow_nil _ _ _ _,
    h.ps.keep hx (fun i hi => blk_ne (h.ps.ps i hi).hd h.hd (by decide)) (fun i hi => own_not (h.ps.ps i hi).row h.hd (by decide)),
    h.rs.keep hx (fun i hi => blk_ne (h.rs.ps i hi).hd h.hd (by decide)) (fun i hi => own_not (h.rs.ps i hi).row h.hd (by decide)),
    h.wks.keep hx (own_not h.wks.row h.hd (by decide)) (fun x hm => ⟨blk_ne (h.wks.wk x hm).hd h.hd (by decide), own_not (h.wks.wk x hm).row h.hd (by decide)⟩) (fun x hm => ⟨blk_ne (h.wks.of x hm).hd h.hd (by decide), own_not (h.wks.of x hm).row h.hd (by decide)⟩)⟩
end Go.Proofs.Ytffapgemacbdjaa
