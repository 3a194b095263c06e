/- Contracts of SparePage and KeptPage: a page with marked room behind each of its lists. No condition but that what comes in lies in memory. -/
import Derived.Test.YtjjbckdiojleeaaEqpg
import Derived.Test.YtjjbckdiojleeaaCopypg
import Derived.Test.YtjjbckdiojleeaaSpare
import Derived.Deep.MidRow
namespace Go.Proofs.Ytjjbckdiojleeaa
set_option linter.unusedVariables false
open Go.RowKit Go.Proofs
theorem setCells_block {g : Nat} {t : TypeId} : ∀ (vs pre old post : List Value) (o : Nat) (w : World), w.heap[g]? = some (.cells (pre ++ old ++ post).toArray t (0, 0)) → pre.length = o → old.length = vs.length →
    (w.setCells g o vs).heap[g]? = some (.cells (pre ++ vs ++ post).toArray t (0, 0)) ∧ w.grownBy (w.setCells g o vs) (some g)
  | [], pre, old, post, o, w, h, _, hl => by
    have : old = [] := List.eq_nil_of_length_eq_zero hl
    subst this
    exact ⟨h, World.grownBy.refl w _⟩
  | v :: vs, pre, u :: old, post, o, w, h, hp, hl => by
    subst hp
    have h1 := heap_setCell_same w g pre.length _ t v h
    have e : (pre ++ u :: old ++ post).toArray.setIfInBounds pre.length v = ((pre ++ [v]) ++ old ++ post).toArray := by
      simp
    rw [e] at h1
    have h2 := setCells_block vs (pre ++ [v]) old post (pre.length + 1) (w.setCell ⟨g, pre.length, none⟩ v) h1 (by simp) (by simpa using hl)
    refine ⟨by simpa [World.setCells] using h2.1, ?_⟩
    have hg : w.grownBy (w.setCell ⟨g, pre.length, none⟩ v) (some g) := ⟨rfl, rfl, rfl, by simp [World.setCell], fun k hk hn => Below.heap_setCell w _ v k (by rintro rfl; exact hn rfl)⟩
    exact ⟨h2.2.os.trans hg.os, h2.2.tape.trans hg.tape, h2.2.output.trans hg.output, Nat.le_trans hg.size h2.2.size, fun k hk hn => (h2.2.block k (Nat.lt_of_lt_of_le hk hg.size) hn).trans (hg.block k hk hn)⟩
  | v :: vs, pre, [], post, o, w, h, _, hl => by simp at hl
/-- A whole value stored into the midst of a block. -/
theorem wpList_store_part {P : Program} {ops : Array Oper} {rest : List Oper} {o : Oper} {a : Act} {w : World} {Q : Exit → Act → World → Prop} (hgd : o.guard = none) (ty : TypeId) (x y : Operand) (ho : o.op = .store ty x y)
    (g off : Nat) (vs pre old post : List Value) (hx : a.eval x = .pointer (some ⟨g, off, none⟩)) (hy : a.eval y = .agg vs.toArray) (t : TypeId) (hg : w.heap[g]? = some (.cells (pre ++ old ++ post).toArray t (0, 0)))
    (hp : pre.length = off) (hl : old.length = vs.length) (hi : (P.info? ty).map (·.size) = some vs.length) (h1 : ∀ v ∈ vs, v.oneCell' = true)
    (h : ∀ w', w'.heap[g]? = some (.cells (pre ++ vs ++ post).toArray t (0, 0)) → w.grownBy w' (some g) → wpList P ops Q rest (a.put o.dst undef) w') : wpList P ops Q (o :: rest) a w := by
  obtain ⟨k1, k2⟩ := setCells_block vs pre old post off w hg hp hl
  refine wpList_store_mid hgd ty x y ho g off vs.toArray hx hy (fun j hj => ?_) (by simpa using hi) (all_oneCell_toArray h1) (h _ (by simpa using k1) (by simpa using k2))
  have hj' : j < vs.length := by simpa using hj
  refine ⟨?_, frozen_of_row w g (off + j) _ t hg⟩
  rw [cell_of_row w g (off + j) _ t _ hg]
  simp only [List.getElem?_toArray, Option.isSome_iff_exists]
  exact ⟨_, List.getElem?_eq_getElem (by simp; omega)⟩
def zIt : List Value := [.slice none 0 0, .slice none 0 0, .int .i64 0, .int .i64 0]
def zeros : Nat → List Value
  | 0 => []
  | m + 1 => zIt ++ zeros m
theorem length_zeros (m : Nat) : (zeros m).length = m * 4 := by
  induction m with
  | zero => rfl
  | succ m ih => simp [zeros, zIt, ih]; omega
theorem zeros_at : ∀ (m i : Nat), i < m * 4 → (zeros m)[i]? = zIt[i % 4]?
  | 0, i, h => by omega
  | m + 1, i, h => by
    rw [zeros]
    by_cases hi : i < 4
    · rw [List.getElem?_append_left (by simp [zIt]; omega), Nat.mod_eq_of_lt hi]
    · rw [List.getElem?_append_right (by simp [zIt]; omega), show zIt.length = 4 from rfl, zeros_at m (i - 4) (by omega)]
      congr 1
      omega
theorem made_zeros (m : Nat) : madeCells (Value.agg #[.slice none 0 0, .slice none 0 0, .int .i64 0, .int .i64 0]).cells (m * 4) = (zeros m).toArray := by
  apply Array.ext'
  apply List.ext_getElem?
  intro i
  unfold madeCells
  simp only [Array.toList_map, Array.toList_range, List.getElem?_map]
  by_cases hi : i < m * 4
  · rw [List.getElem?_range hi, zeros_at m i hi]
    have h4 : i % 4 < 4 := Nat.mod_lt _ (by omega)
    simp only [Option.map_some, Value.cells, List.size_toArray, List.length_cons, List.length_nil]
    generalize i % 4 = j at h4
    match j, h4 with
    | 0, _ => rfl
    | 1, _ => rfl
    | 2, _ => rfl
    | 3, _ => rfl
  · rw [List.getElem?_eq_none (by simp; omega), List.getElem?_eq_none (by rw [length_zeros]; omega)]
    rfl
/-- What SparePage leaves of each item. -/
def SpBy (B : Nat) (bs : List UInt8) (v : Value) (w : World) : Prop := ∃ g, v = .slice (some ⟨g, 0, none⟩) bs.length (bs.length + 64) ∧ B ≤ g ∧ Spared w g bs
theorem SpBy.ext {B : Nat} {bs : List UInt8} {v : Value} {w w' : World} (h : SpBy B bs v w) (he : Ext w w') : SpBy B bs v w' := by
  obtain ⟨g, h1, h2, h3⟩ := h
  exact ⟨g, h1, h2, Blk.ext h3 he⟩
theorem SpBy.exc {D : Nat → Obj → Prop} {B : Nat} (hd : ∀ k cs, B ≤ k → ¬ D k (.cells cs 5 (0, 0))) (bs : List UInt8) (v : Value) : Lasts (Exc D) (SpBy B bs v) := fun w w' ⟨g, h1, h2, h3⟩ hx => ⟨g, h1, h2, hx.blk h3 (hd g _ h2)⟩
def SpEach (B : Nat) (w : World) : List (Value × Value) → List It → Prop
  | [], [] => True
  | p :: ps, x :: xs => SpBy B x.key p.1 w ∧ SpBy B x.val p.2 w ∧ SpEach B w ps xs
  | _, _ => False
theorem SpEach.length {B : Nat} {w : World} : ∀ {ps : List (Value × Value)} {xs : List It}, SpEach B w ps xs → ps.length = xs.length
  | [], [], _ => rfl
  | p :: ps, x :: xs, h => by simp [SpEach.length h.2.2]
  | [], x :: xs, h => h.elim
  | p :: ps, [], h => h.elim
theorem SpEach.ext {B : Nat} {w w' : World} (he : Ext w w') : ∀ {ps : List (Value × Value)} {xs : List It}, SpEach B w ps xs → SpEach B w' ps xs
  | [], [], _ => trivial
  | p :: ps, x :: xs, h => ⟨h.1.ext he, h.2.1.ext he, SpEach.ext he h.2.2⟩
  | [], x :: xs, h => h.elim
  | p :: ps, [], h => h.elim
theorem SpEach.exc {D : Nat → Obj → Prop} {B : Nat} {w w' : World} (hx : Exc D w w') (hd : ∀ k cs, B ≤ k → ¬ D k (.cells cs 5 (0, 0))) : ∀ {ps : List (Value × Value)} {xs : List It}, SpEach B w ps xs → SpEach B w' ps xs
  | [], [], _ => trivial
  | p :: ps, x :: xs, h => ⟨SpBy.exc hd _ _ _ _ h.1 hx, SpBy.exc hd _ _ _ _ h.2.1 hx, SpEach.exc hx hd h.2.2⟩
  | [], x :: xs, h => h.elim
  | p :: ps, [], h => h.elim
theorem SpEach.append {B : Nat} {w : World} : ∀ {ps : List (Value × Value)} {xs : List It} {qs : List (Value × Value)} {ys : List It}, SpEach B w ps xs → SpEach B w qs ys → SpEach B w (ps ++ qs) (xs ++ ys)
  | [], [], _, _, _, k => k
  | p :: ps, x :: xs, _, _, h, k => ⟨h.1, h.2.1, SpEach.append h.2.2 k⟩
  | [], x :: xs, _, _, h, _ => h.elim
  | p :: ps, [], _, _, h, _ => h.elim
theorem SpEach.at_ {B : Nat} {w : World} : ∀ {ps : List (Value × Value)} {xs : List It} {i : Nat} {x : It}, SpEach B w ps xs → xs[i]? = some x → ∃ p, ps[i]? = some p ∧ SpBy B x.key p.1 w ∧ SpBy B x.val p.2 w
  | [], [], i, x, _, h => by simp at h
  | p :: ps, y :: xs, 0, x, h, hx => by
    simp only [List.getElem?_cons_zero, Option.some.injEq] at hx
    subst hx
    exact ⟨p, rfl, h.1, h.2.1⟩
  | p :: ps, y :: xs, i + 1, x, h, hx => by
    simp only [List.getElem?_cons_succ] at hx ⊢
    exact SpEach.at_ h.2.2 hx
  | [], x :: xs, _, _, h, _ => h.elim
  | p :: ps, [], _, _, h, _ => h.elim
/-- The marked items behind the others. -/
def markIt (i : Nat) : List Value := [.slice none 0 0, .slice none 0 0, .int .i64 (-5 - (i : Int)), .int .i64 (-9)]
def markIts (n : Nat) : Nat → List Value
  | 0 => []
  | m + 1 => markIts n m ++ markIt (n + m)
theorem length_markIts (n m : Nat) : (markIts n m).length = m * 4 := by
  induction m with
  | zero => rfl
  | succ m ih => simp [markIts, markIt, ih]; omega
/-- What SparePage makes. -/
structure SpPg (w : World) (v : Value) (p : Pg) : Prop where
  mk_ ::
  ex : ∃ g ps gd, v = .agg #[.int .i64 p.kind, .int .i64 p.level, .slice (some ⟨g, 0, none⟩) p.items.length (p.items.length + 2), .slice (some ⟨gd, 0, none⟩) p.data.length (p.data.length + 64), .int .i64 p.next] ∧
    w.heap[g]? = some (.cells (rowCells ps p.items ++ markIts p.items.length 2).toArray 51 (0, 0)) ∧ SpEach 0 w ps p.items ∧ Spared w gd p.data
theorem SpPg.ext {w w' : World} {v : Value} {p : Pg} (h : SpPg w v p) (he : Ext w w') : SpPg w' v p := by
  obtain ⟨g, ps, gd, h1, h2, h3, h4⟩ := h.ex
  exact ⟨g, ps, gd, h1, he.blk h2, h3.ext he, Blk.ext h4 he⟩
theorem rowCells_cell {w : World} {g : Nat} {ps : List (Value × Value)} {l : List It} {post : List Value} {t : TypeId} (h : w.heap[g]? = some (.cells (rowCells ps l ++ post).toArray t (0, 0))) {i j : Nat} {p : Value × Value} {x : It} (hp : ps[i]? = some p) (hx : l[i]? = some x) (hl : ps.length = l.length) (hj : j < 4) :
    w.cell? ⟨g, i * 4 + j, none⟩ = (itCells p x)[j]? := by
  rw [cell_of_row w g _ _ _ _ h]
  have hi : i < l.length := (List.getElem?_eq_some_iff.1 hx).1
  simp only [List.getElem?_toArray]
  rw [List.getElem?_append_left (by rw [length_rowCells ps l hl]; omega)]
  exact rowCells_at ps l i j p x hp hx hj
theorem SpPg.pgv {w : World} {v : Value} {p : Pg} (h : SpPg w v p) (hs : PSmall p) : PgV w v p := by
  obtain ⟨g, ps, gd, h1, h2, h3, h4⟩ := h.ex
  refine ⟨some ⟨g, 0, none⟩, p.items.length + 2, some ⟨gd, 0, none⟩, p.data.length + 64, h1, ⟨fun hn => ⟨g, 0, rfl, fun i x hx => ?_⟩, hs.n, by omega, by have := hs.n; omega⟩, h4.sl hs.d⟩
  obtain ⟨q, hq, ⟨gk, hk1, _, hk2⟩, ⟨gv, hv1, _, hv2⟩⟩ := h3.at_ hx
  have hl := h3.length
  have hsm := hs.each x (List.mem_of_getElem? hx)
  refine ⟨_, _, _, _, ?_, ?_, ?_, ?_, hk2.sl hsm.k, hv2.sl hsm.v⟩
  · rw [Nat.zero_add, show i * 4 = i * 4 + 0 by omega, rowCells_cell h2 hq hx hl (by omega)]; simp [itCells, hk1]
  · rw [Nat.zero_add, rowCells_cell h2 hq hx hl (by omega)]; simp [itCells, hv1]
  · rw [Nat.zero_add, rowCells_cell h2 hq hx hl (by omega)]; simp [itCells]
  · rw [Nat.zero_add, rowCells_cell h2 hq hx hl (by omega)]; simp [itCells]
end Go.Proofs.Ytjjbckdiojleeaa
