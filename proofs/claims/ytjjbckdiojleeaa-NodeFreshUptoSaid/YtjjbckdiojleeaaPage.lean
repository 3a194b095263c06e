/- Words for items and pages: how they lie in memory, and which of them are the call's own. No condition. -/
import Derived.Test.YtjjbckdiojleeaaOwnb
import Derived.Test.YtjjbckdiojleeaaLists
import Derived.Test.YtjjbckdiojleeaaRg
namespace Go.Proofs.Ytjjbckdiojleeaa
set_option linter.unusedVariables false
open Go.RowKit
structure It where
  key : List UInt8
  val : List UInt8
  ch : Int
  sz : Int
deriving DecidableEq
structure Pg where
  kind : Int
  level : Int
  items : List It
  data : List UInt8
  next : Int
deriving DecidableEq
def Pg.zero : Pg := ⟨0, 0, [], [], 0⟩
def It.zero : It := ⟨[], [], 0, 0⟩
/-- The item x lies at the cells from o on of block b. -/
def ItC (w : World) (b o : Nat) (x : It) : Prop := ∃ kA kc vA vc, w.cell? ⟨b, o, none⟩ = some (.slice kA x.key.length kc) ∧ w.cell? ⟨b, o + 1, none⟩ = some (.slice vA x.val.length vc) ∧
  w.cell? ⟨b, o + 2, none⟩ = some (.int .i64 x.ch) ∧ w.cell? ⟨b, o + 3, none⟩ = some (.int .i64 x.sz) ∧ Sl w kA kc x.key ∧ Sl w vA vc x.val
theorem ItC.ext {w w' : World} {b o : Nat} {x : It} (h : ItC w b o x) (he : Ext w w') : ItC w' b o x := by
  obtain ⟨kA, kc, vA, vc, h1, h2, h3, h4, h5, h6⟩ := h
  exact ⟨kA, kc, vA, vc, he.cell h1, he.cell h2, he.cell h3, he.cell h4, h5.ext he, h6.ext he⟩
/-- A slice of items. -/
structure Its (w : World) (A : Option Addr) (c : Nat) (l : List It) : Prop where
  rd : 0 < l.length → ∃ b off, A = some ⟨b, off, none⟩ ∧ ∀ i x, l[i]? = some x → ItC w b (off + i * 4) x
  len : l.length ≤ 2199023255552
  le : l.length ≤ c
  cap : c ≤ 9223372036854775807
theorem Its.ext {w w' : World} {A : Option Addr} {c : Nat} {l : List It} (h : Its w A c l) (he : Ext w w') : Its w' A c l :=
  ⟨fun hn => by obtain ⟨b, off, hA, hc⟩ := h.rd hn; exact ⟨b, off, hA, fun i x hx => (hc i x hx).ext he⟩, h.len, h.le, h.cap⟩
theorem Its.nil (w : World) (A : Option Addr) {c : Nat} (hc : c ≤ 9223372036854775807) : Its w A c [] := ⟨fun h => absurd h (by simp), by simp, Nat.zero_le _, hc⟩
theorem Its.take {w : World} {A : Option Addr} {c : Nat} {l : List It} (h : Its w A c l) (k c' : Nat) (hc : (l.take k).length ≤ c') (hm : c' ≤ 9223372036854775807) : Its w A c' (l.take k) := by
  refine ⟨fun hn => ?_, by have := h.len; simp; omega, hc, hm⟩
  have hl : (l.take k).length ≤ l.length := by simp; omega
  obtain ⟨b, off, hA, hcc⟩ := h.rd (by omega)
  refine ⟨b, off, hA, fun i x hx => hcc i x ?_⟩
  rw [List.getElem?_take] at hx
  split at hx
  · exact hx
  · cases hx
/-- 'l[k:]', where something is left. -/
theorem Its.drop {w : World} {b off c : Nat} {l : List It} (h : Its w (some ⟨b, off, none⟩) c l) (k : Nat) (hk : k ≤ l.length) : Its w (some ⟨b, off + k * 4, none⟩) (c - k) (l.drop k) := by
  refine ⟨fun hn => ?_, by have := h.len; simp; omega, by have := h.le; simp; omega, by have := h.cap; omega⟩
  simp only [List.length_drop] at hn
  obtain ⟨b', off', hA, hcc⟩ := h.rd (by omega)
  simp only [Option.some.injEq, Addr.mk.injEq, and_true] at hA
  obtain ⟨rfl, rfl⟩ := hA
  refine ⟨b, off + k * 4, rfl, fun i x hx => ?_⟩
  rw [List.getElem?_drop] at hx
  have := hcc (k + i) x hx
  rwa [show off + (k + i) * 4 = off + k * 4 + i * 4 by omega] at this
/-- A page as a value. -/
structure PgV (w : World) (v : Value) (p : Pg) : Prop where
  mk_ ::
  ex : ∃ iA ic dA dc, v = .agg #[.int .i64 p.kind, .int .i64 p.level, .slice iA p.items.length ic, .slice dA p.data.length dc, .int .i64 p.next] ∧ Its w iA ic p.items ∧ Sl w dA dc p.data
theorem PgV.ext {w w' : World} {v : Value} {p : Pg} (h : PgV w v p) (he : Ext w w') : PgV w' v p := by
  obtain ⟨iA, ic, dA, dc, h1, h2, h3⟩ := h.ex
  exact ⟨iA, ic, dA, dc, h1, h2.ext he, h3.ext he⟩
/-- An item as a value. -/
structure ItV (w : World) (v : Value) (x : It) : Prop where
  mk_ ::
  ex : ∃ kA kc vA vc, v = .agg #[.slice kA x.key.length kc, .slice vA x.val.length vc, .int .i64 x.ch, .int .i64 x.sz] ∧ Sl w kA kc x.key ∧ Sl w vA vc x.val
theorem ItV.ext {w w' : World} {v : Value} {x : It} (h : ItV w v x) (he : Ext w w') : ItV w' v x := by
  obtain ⟨kA, kc, vA, vc, h1, h2, h3⟩ := h.ex
  exact ⟨kA, kc, vA, vc, h1, h2.ext he, h3.ext he⟩
/-! ### Items of the call's own -/
def itCells (p : Value × Value) (x : It) : List Value := [p.1, p.2, .int .i64 x.ch, .int .i64 x.sz]
def rowCells : List (Value × Value) → List It → List Value
  | p :: ps, x :: xs => itCells p x ++ rowCells ps xs
  | _, _ => []
theorem length_rowCells : ∀ (ps : List (Value × Value)) (xs : List It), ps.length = xs.length → (rowCells ps xs).length = xs.length * 4
  | [], [], _ => rfl
  | p :: ps, x :: xs, h => by
    simp only [List.length_cons, Nat.add_right_cancel_iff] at h
    simp [rowCells, itCells, length_rowCells ps xs h]; omega
  | [], x :: xs, h => by simp at h
  | p :: ps, [], h => by simp at h
theorem rowCells_append : ∀ (ps : List (Value × Value)) (xs : List It) (qs : List (Value × Value)) (ys : List It), ps.length = xs.length → rowCells (ps ++ qs) (xs ++ ys) = rowCells ps xs ++ rowCells qs ys
  | [], [], _, _, _ => rfl
  | p :: ps, x :: xs, qs, ys, h => by
    simp only [List.length_cons, Nat.add_right_cancel_iff] at h
    simp [rowCells, rowCells_append ps xs qs ys h]
  | [], x :: xs, _, _, h => by simp at h
  | p :: ps, [], _, _, h => by simp at h
theorem rowCells_at : ∀ (ps : List (Value × Value)) (xs : List It) (i j : Nat) (p : Value × Value) (x : It), ps[i]? = some p → xs[i]? = some x → j < 4 → (rowCells ps xs)[i * 4 + j]? = (itCells p x)[j]?
  | [], _, i, _, _, _, h, _, _ => by simp at h
  | _ :: _, [], i, _, _, _, _, h, _ => by simp at h
  | p :: ps, x :: xs, 0, j, q, y, h1, h2, hj => by
    simp only [List.getElem?_cons_zero, Option.some.injEq] at h1 h2
    subst h1 h2
    rw [rowCells, List.getElem?_append_left (by simp [itCells]; omega), Nat.zero_mul, Nat.zero_add]
  | p :: ps, x :: xs, i + 1, j, q, y, h1, h2, hj => by
    simp only [List.getElem?_cons_succ] at h1 h2
    rw [rowCells, List.getElem?_append_right (by simp [itCells]; omega)]
    have := rowCells_at ps xs i j q y h1 h2 hj
    rw [← this]
    congr 1
    simp [itCells]; omega
theorem rowCells_set : ∀ (ps : List (Value × Value)) (xs : List It) (i : Nat) (p : Value × Value) (x y : It) (v : Value), ps[i]? = some p → xs[i]? = some x → y.ch = x.ch → y.sz = x.sz →
    (rowCells ps xs).set (i * 4) v = rowCells (ps.set i (v, p.2)) (xs.set i y)
  | [], _, i, _, _, _, _, h, _, _, _ => by simp at h
  | _ :: _, [], i, _, _, _, _, _, h, _, _ => by simp at h
  | p :: ps, x :: xs, 0, q, z, y, v, h1, h2, h3, h4 => by
    simp only [List.getElem?_cons_zero, Option.some.injEq] at h1 h2
    subst h1 h2
    simp [rowCells, itCells, h3, h4]
  | p :: ps, x :: xs, i + 1, q, z, y, v, h1, h2, h3, h4 => by
    simp only [List.getElem?_cons_succ] at h1 h2
    have := rowCells_set ps xs i q z y v h1 h2 h3 h4
    simp only [rowCells, List.set_cons_succ]
    rw [← this, List.set_append_right _ _ (by simp [itCells]; omega)]
    congr 2
    simp [itCells]; omega
theorem rowCells_one : ∀ (ps : List (Value × Value)) (xs : List It), (∀ p ∈ ps, p.1.oneCell' = true ∧ p.2.oneCell' = true) → ∀ u ∈ rowCells ps xs, u.oneCell' = true
  | [], _, _, u, hu => by simp [rowCells] at hu
  | _ :: _, [], _, u, hu => by simp [rowCells] at hu
  | p :: ps, x :: xs, h, u, hu => by
    simp only [rowCells, itCells, List.cons_append, List.nil_append, List.mem_cons] at hu
    rcases hu with rfl | rfl | rfl | rfl | hu
    · exact (h p (by simp)).1
    · exact (h p (by simp)).2
    · rfl
    · rfl
    · exact rowCells_one ps xs (fun q hq => h q (by simp [hq])) u hu
/-- All keys and values of a row of items are the call's own. -/
def OwnEach (B : Nat) (w : World) : List (Value × Value) → List It → Prop
  | [], [] => True
  | p :: ps, x :: xs => SOwn 5 B x.key p.1 w ∧ SOwn 5 B x.val p.2 w ∧ OwnEach B w ps xs
  | _, _ => False
theorem OwnEach.length {B : Nat} {w : World} : ∀ {ps : List (Value × Value)} {xs : List It}, OwnEach B w ps xs → ps.length = xs.length
  | [], [], _ => rfl
  | p :: ps, x :: xs, h => by simp [OwnEach.length h.2.2]
  | [], x :: xs, h => h.elim
  | p :: ps, [], h => h.elim
theorem SOwn.ext {e : TypeId} {B : Nat} {bs : List UInt8} {v : Value} {w w' : World} (h : SOwn e B bs v w) (he : Ext w w') : SOwn e B bs v w' := SOwn.stable _ _ _ _ w w' h he
theorem SOwn.mono {e : TypeId} {B B' : Nat} {bs : List UInt8} {v : Value} {w : World} (h : SOwn e B bs v w) (hB : B' ≤ B) : SOwn e B' bs v w := by
  obtain ⟨A, c, hv, ho⟩ := h
  exact ⟨A, c, hv, ho.mono hB⟩
theorem OwnEach.ext {B : Nat} {w w' : World} (he : Ext w w') : ∀ {ps : List (Value × Value)} {xs : List It}, OwnEach B w ps xs → OwnEach B w' ps xs
  | [], [], _ => trivial
  | p :: ps, x :: xs, h => ⟨h.1.ext he, h.2.1.ext he, OwnEach.ext he h.2.2⟩
  | [], x :: xs, h => h.elim
  | p :: ps, [], h => h.elim
theorem OwnEach.mono {B B' : Nat} {w : World} (hB : B' ≤ B) : ∀ {ps : List (Value × Value)} {xs : List It}, OwnEach B w ps xs → OwnEach B' w ps xs
  | [], [], _ => trivial
  | p :: ps, x :: xs, h => ⟨h.1.mono hB, h.2.1.mono hB, OwnEach.mono hB h.2.2⟩
  | [], x :: xs, h => h.elim
  | p :: ps, [], h => h.elim
theorem OwnEach.append {B : Nat} {w : World} : ∀ {ps : List (Value × Value)} {xs : List It} {qs : List (Value × Value)} {ys : List It}, OwnEach B w ps xs → OwnEach B w qs ys → OwnEach B w (ps ++ qs) (xs ++ ys)
  | [], [], _, _, _, k => k
  | p :: ps, x :: xs, _, _, h, k => ⟨h.1, h.2.1, OwnEach.append h.2.2 k⟩
  | [], x :: xs, _, _, h, _ => h.elim
  | p :: ps, [], _, _, h, _ => h.elim
theorem OwnEach.at_ {B : Nat} {w : World} : ∀ {ps : List (Value × Value)} {xs : List It} {i : Nat} {x : It}, OwnEach B w ps xs → xs[i]? = some x → ∃ p, ps[i]? = some p ∧ SOwn 5 B x.key p.1 w ∧ SOwn 5 B x.val p.2 w
  | [], [], i, x, _, h => by simp at h
  | p :: ps, y :: xs, 0, x, h, hx => by
    simp only [List.getElem?_cons_zero, Option.some.injEq] at hx
    subst hx
    exact ⟨p, rfl, h.1, h.2.1⟩
  | p :: ps, y :: xs, i + 1, x, h, hx => by
    simp only [List.getElem?_cons_succ] at hx ⊢
    exact OwnEach.at_ h.2.2 hx
  | [], x :: xs, _, _, h, _ => h.elim
  | p :: ps, [], _, _, h, _ => h.elim
theorem OwnEach.set_ {B : Nat} {w : World} : ∀ {ps : List (Value × Value)} {xs : List It} {i : Nat} {q : Value × Value} {y : It}, OwnEach B w ps xs → SOwn 5 B y.key q.1 w → SOwn 5 B y.val q.2 w → OwnEach B w (ps.set i q) (xs.set i y)
  | [], [], _, _, _, _, _, _ => trivial
  | p :: ps, x :: xs, 0, q, y, h, h1, h2 => ⟨h1, h2, h.2.2⟩
  | p :: ps, x :: xs, i + 1, q, y, h, h1, h2 => ⟨h.1, h.2.1, OwnEach.set_ h.2.2 h1 h2⟩
  | [], x :: xs, _, _, _, h, _, _ => h.elim
  | p :: ps, [], _, _, _, h, _, _ => h.elim
/-- All keys and values one behind the other. -/
def flat (ps : List (Value × Value)) : List Value := ps.flatMap fun p => [p.1, p.2]
theorem flat_append (ps qs : List (Value × Value)) : flat (ps ++ qs) = flat ps ++ flat qs := by simp [flat]
theorem flat_one (p : Value × Value) : flat [p] = [p.1, p.2] := rfl
theorem OwnEach.mem {B : Nat} {w : World} : ∀ {ps : List (Value × Value)} {xs : List It}, OwnEach B w ps xs → ∀ a ∈ flat ps, ∃ bs, SOwn 5 B bs a w
  | [], [], _, a, ha => by simp [flat] at ha
  | p :: ps, x :: xs, h, a, ha => by
    simp only [flat, List.flatMap_cons, List.cons_append, List.nil_append, List.mem_cons] at ha
    rcases ha with rfl | rfl | ha
    · exact ⟨_, h.1⟩
    · exact ⟨_, h.2.1⟩
    · exact OwnEach.mem h.2.2 a ha
  | [], x :: xs, h, _, _ => h.elim
  | p :: ps, [], h, _, _ => h.elim
/-- A slice of items of the call's own, their keys and values too; no two lists share their memory. -/
structure OwnIts (B : Nat) (w : World) (A : Option Addr) (c : Nat) (l : List It) (ps : List (Value × Value)) : Prop where
  row : w.ownsRow B 51 4 (.slice A l.length c) l.length (rowCells ps l)
  each : OwnEach B w ps l
  apart : (flat ps).Pairwise NoShare
theorem OwnIts.ext {B : Nat} {w w' : World} {A : Option Addr} {c : Nat} {l : List It} {ps : List (Value × Value)} (h : OwnIts B w A c l ps) (he : Ext w w') : OwnIts B w' A c l ps := by
  refine ⟨⟨h.row.1, ?_⟩, h.each.ext he, h.apart⟩
  rcases h.row.2 with h0 | ⟨g, cap, cur, hv, hb, hg, r⟩
  · exact .inl h0
  · exact .inr ⟨g, cap, cur, hv, hb, he.blk hg, r⟩
theorem ownsRow_mono {B B' : Nat} {w : World} {e : TypeId} {size n : Nat} {v : Value} {xs : List Value} (h : w.ownsRow B e size v n xs) (hB : B' ≤ B) : w.ownsRow B' e size v n xs := by
  refine ⟨h.1, ?_⟩
  rcases h.2 with h0 | ⟨g, cap, cur, hv, hb, hg, r⟩
  · exact .inl h0
  · exact .inr ⟨g, cap, cur, hv, Nat.le_trans hB hb, hg, r⟩
theorem OwnIts.mono {B B' : Nat} {w : World} {A : Option Addr} {c : Nat} {l : List It} {ps : List (Value × Value)} (h : OwnIts B w A c l ps) (hB : B' ≤ B) : OwnIts B' w A c l ps :=
  ⟨ownsRow_mono h.row hB, h.each.mono hB, h.apart⟩
theorem OwnIts.nil (B : Nat) (w : World) : OwnIts B w none 0 [] [] := ⟨⟨rfl, .inl ⟨rfl, rfl⟩⟩, trivial, List.Pairwise.nil⟩
/-- Lengths that memory has room for. -/
structure Small (x : It) : Prop where
  k : x.key.length ≤ 140737488355328
  v : x.val.length ≤ 140737488355328
theorem OwnIts.cellAt {B : Nat} {w : World} {g c : Nat} {l : List It} {ps : List (Value × Value)} (h : OwnIts B w (some ⟨g, 0, none⟩) c l ps) {i j : Nat} {p : Value × Value} {x : It} (hp : ps[i]? = some p) (hx : l[i]? = some x) (hj : j < 4) :
    w.cell? ⟨g, i * 4 + j, none⟩ = (itCells p x)[j]? := by
  have hl := h.each.length
  have hi : i < l.length := (List.getElem?_eq_some_iff.1 hx).1
  rw [World.ownsRow.cellAt h.row (i * 4 + j) (by omega)]
  exact rowCells_at ps l i j p x hp hx hj
theorem OwnIts.its {B : Nat} {w : World} {A : Option Addr} {c : Nat} {l : List It} {ps : List (Value × Value)} (h : OwnIts B w A c l ps) (hl : l.length ≤ 2199023255552) (hs : ∀ x ∈ l, Small x) : Its w A c l := by
  refine ⟨fun hn => ?_, hl, ?_, ?_⟩
  · obtain ⟨g, cap, hv, _, _⟩ := World.ownsRow.form h.row hn
    injection hv with hA
    subst hA
    refine ⟨g, 0, rfl, fun i x hx => ?_⟩
    obtain ⟨p, hp, ⟨kA, kc, hk1, hk2⟩, ⟨vA, vc, hv1, hv2⟩⟩ := h.each.at_ hx
    have hsm := hs x (List.mem_of_getElem? hx)
    refine ⟨kA, kc, vA, vc, ?_, ?_, ?_, ?_, hk2.sl hsm.k, hv2.sl hsm.v⟩
    · rw [Nat.zero_add, show i * 4 = i * 4 + 0 by omega, h.cellAt hp hx (by omega)]; simp [itCells, hk1]
    · rw [Nat.zero_add, h.cellAt hp hx (by omega)]; simp [itCells, hv1]
    · rw [Nat.zero_add, h.cellAt hp hx (by omega)]; simp [itCells]
    · rw [Nat.zero_add, h.cellAt hp hx (by omega)]; simp [itCells]
  · rcases h.row.2 with ⟨hv, h0⟩ | ⟨g, cap, cur, hv, _, _, hle, _⟩
    · omega
    · injection hv with _ _ hc
      subst hc
      exact hle
  · rcases h.row.2 with ⟨hv, h0⟩ | ⟨g, cap, cur, hv, _, _, _, hm, _⟩
    · injection hv with _ _ hc
      omega
    · injection hv with _ _ hc
      subst hc
      simpa [maxLen] using hm
/-- A page of the call's own. -/
structure PgO (B : Nat) (w : World) (v : Value) (p : Pg) : Prop where
  mk_ ::
  ex : ∃ iA ic dA dc ps, v = .agg #[.int .i64 p.kind, .int .i64 p.level, .slice iA p.items.length ic, .slice dA p.data.length dc, .int .i64 p.next] ∧ OwnIts B w iA ic p.items ps ∧ Own 5 B w dA dc p.data ∧ ∀ a ∈ flat ps, NoShare (.slice dA p.data.length dc) a
theorem PgO.ext {B : Nat} {w w' : World} {v : Value} {p : Pg} (h : PgO B w v p) (he : Ext w w') : PgO B w' v p := by
  obtain ⟨iA, ic, dA, dc, ps, h1, h2, h3, h4⟩ := h.ex
  exact ⟨iA, ic, dA, dc, ps, h1, h2.ext he, h3.ext he, h4⟩
theorem PgO.mono {B B' : Nat} {w : World} {v : Value} {p : Pg} (h : PgO B w v p) (hB : B' ≤ B) : PgO B' w v p := by
  obtain ⟨iA, ic, dA, dc, ps, h1, h2, h3, h4⟩ := h.ex
  exact ⟨iA, ic, dA, dc, ps, h1, h2.mono hB, h3.mono hB, h4⟩
/-- A page that memory has room for. -/
structure PSmall (p : Pg) : Prop where
  n : p.items.length ≤ 2199023255552
  each : ∀ x ∈ p.items, Small x
  d : p.data.length ≤ 140737488355328
theorem PgO.pgv {B : Nat} {w : World} {v : Value} {p : Pg} (h : PgO B w v p) (hs : PSmall p) : PgV w v p := by
  obtain ⟨iA, ic, dA, dc, ps, h1, h2, h3, _⟩ := h.ex
  exact ⟨iA, ic, dA, dc, h1, h2.its hs.n hs.each, h3.sl hs.d⟩
theorem Its.small {w : World} {A : Option Addr} {c : Nat} {l : List It} (h : Its w A c l) : ∀ x ∈ l, Small x := fun x hx => by
  obtain ⟨i, hi⟩ := List.mem_iff_getElem?.1 hx
  obtain ⟨b, off, _, hc⟩ := h.rd (List.length_pos_of_mem hx)
  obtain ⟨_, _, _, _, _, _, _, _, h5, h6⟩ := hc i x hi
  exact ⟨h5.len, h6.len⟩
theorem PgV.small {w : World} {v : Value} {p : Pg} (h : PgV w v p) : PSmall p := by
  obtain ⟨iA, ic, dA, dc, _, h2, h3⟩ := h.ex
  exact ⟨h2.len, h2.small, h3.len⟩
theorem PgO.zero (B : Nat) (w : World) : PgO B w (.agg #[.int .i64 0, .int .i64 0, .slice none 0 0, .slice none 0 0, .int .i64 0]) Pg.zero :=
  ⟨none, 0, none, 0, [], rfl, OwnIts.nil B w, ⟨rfl, .inl ⟨rfl, rfl⟩⟩, fun a ha => by simp [flat] at ha⟩
/-- What is kept when only blocks turn that are not these. -/
theorem OwnEach.only {B : Nat} {w w' : World} {g : Nat} (hg : w.grownBy w' (some g)) : ∀ {ps : List (Value × Value)} {xs : List It}, OwnEach B w ps xs → (∀ a ∈ flat ps, a.ownBlock ≠ some g) → OwnEach B w' ps xs
  | [], [], _, _ => trivial
  | p :: ps, x :: xs, h, hne => by
    have k : ∀ {v : Value} {bs : List UInt8}, SOwn 5 B bs v w → v.ownBlock ≠ some g → SOwn 5 B bs v w' := fun {v bs} ⟨A, c, hv, ho⟩ hn => by
      subst hv
      exact ⟨A, c, rfl, World.ownsRow.kept ho hg (by
        cases hv : (Value.slice A bs.length c).ownBlock with
        | none => exact .inl rfl
        | some k => exact .inr fun e => hn (by rw [hv, ← e]))⟩
    simp only [flat, List.flatMap_cons, List.cons_append, List.nil_append, List.mem_cons] at hne
    exact ⟨k h.1 (hne _ (.inl rfl)), k h.2.1 (hne _ (.inr (.inl rfl))), OwnEach.only hg h.2.2 fun a ha => hne a (.inr (.inr ha))⟩
  | [], x :: xs, h, _ => h.elim
  | p :: ps, [], h, _ => h.elim
/-- Blocks of two types are two. -/
theorem ownBlock_type {B B' : Nat} {w : World} {e e' : TypeId} {size size' n n' : Nat} {v u : Value} {xs ys : List Value} (h : w.ownsRow B e size v n xs) (k : w.ownsRow B' e' size' u n' ys) (hne : e ≠ e') : NoShare v u := fun g hv hu => by
  rcases h.2 with ⟨h0, _⟩ | ⟨g1, c1, cur1, h1, _, hb1, _⟩
  · subst h0; cases hv
  · rcases k.2 with ⟨k0, _⟩ | ⟨g2, c2, cur2, k1, _, hb2, _⟩
    · subst k0; cases hu
    · subst h1 k1
      injection hv with hv
      injection hu with hu
      simp only at hv hu
      subst hv hu
      rw [hb1] at hb2
      injection hb2 with hb2
      injection hb2 with _ e
      exact hne e
theorem blk_setCell_other {w : World} {k g' : Nat} {o : Obj} (h : w.heap[k]? = some o) (i : Nat) (v : Value) (hne : k ≠ g') : (w.setCell ⟨g', i, none⟩ v).heap[k]? = some o :=
  (Below.heap_setCell w _ v k (fun e => hne e)).trans h
theorem setCell_exc (w : World) (g i : Nat) (v : Value) : Exc (fun q _ => q = g) w (w.setCell ⟨g, i, none⟩ v) :=
  ⟨rfl, rfl, rfl, by simp [World.setCell], fun k o hk hn => blk_setCell_other hk i v hn⟩
/-- Blocks of pages from B on. -/
def PgBlk (B : Nat) : Nat → Obj → Prop := fun k o => B ≤ k ∧ ∃ (cs : Array Value) (fr : Nat × Nat), o = .cells cs 26 fr
theorem PgBlk.not8 {B k : Nat} {cs : Array Value} {fr : Nat × Nat} : ¬ PgBlk B k (.cells cs 5 fr) := fun ⟨_, _, _, h⟩ => by injection h with _ h; exact absurd h (by decide)
theorem PgBlk.notI {B k : Nat} {cs : Array Value} {fr : Nat × Nat} : ¬ PgBlk B k (.cells cs 51 fr) := fun ⟨_, _, _, h⟩ => by injection h with _ h; exact absurd h (by decide)
theorem PgBlk.notLt {B k : Nat} {o : Obj} (hk : k < B) : ¬ PgBlk B k o := fun ⟨h, _⟩ => by omega
theorem PgBlk.ge {B k : Nat} {o : Obj} (h : PgBlk B k o) : B ≤ k := h.1
/-! ### What lasts when the call's own older blocks turn -/
theorem ownsRow_exc {D : Nat → Obj → Prop} {B : Nat} {w w' : World} {e : TypeId} {size n : Nat} {v : Value} {xs : List Value} (h : w.ownsRow B e size v n xs) (hx : Exc D w w') (hd : ∀ k cs, B ≤ k → ¬ D k (.cells cs e (0, 0))) : w'.ownsRow B e size v n xs := by
  refine ⟨h.1, ?_⟩
  rcases h.2 with h0 | ⟨g, cap, cur, hv, hb, hg, r⟩
  · exact .inl h0
  · exact .inr ⟨g, cap, cur, hv, hb, hx.blk hg (hd g cur hb), r⟩
theorem SOwn.exc {D : Nat → Obj → Prop} {e : TypeId} {B : Nat} {bs : List UInt8} {v : Value} {w w' : World} (h : SOwn e B bs v w) (hx : Exc D w w') (hd : ∀ k cs, B ≤ k → ¬ D k (.cells cs e (0, 0))) : SOwn e B bs v w' := by
  obtain ⟨A, c, hv, ho⟩ := h
  exact ⟨A, c, hv, ownsRow_exc ho hx hd⟩
theorem OwnEach.exc {D : Nat → Obj → Prop} {B : Nat} {w w' : World} (hx : Exc D w w') (hd : ∀ k cs, B ≤ k → ¬ D k (.cells cs 5 (0, 0))) : ∀ {ps : List (Value × Value)} {xs : List It}, OwnEach B w ps xs → OwnEach B w' ps xs
  | [], [], _ => trivial
  | p :: ps, x :: xs, h => ⟨h.1.exc hx hd, h.2.1.exc hx hd, OwnEach.exc hx hd h.2.2⟩
  | [], x :: xs, h => h.elim
  | p :: ps, [], h => h.elim
theorem OwnIts.exc {D : Nat → Obj → Prop} {B : Nat} {w w' : World} {A : Option Addr} {c : Nat} {l : List It} {ps : List (Value × Value)} (h : OwnIts B w A c l ps) (hx : Exc D w w') (hd : ∀ k cs, B ≤ k → ¬ D k (.cells cs 5 (0, 0))) (hd2 : ∀ k cs, B ≤ k → ¬ D k (.cells cs 51 (0, 0))) : OwnIts B w' A c l ps :=
  ⟨ownsRow_exc h.row hx hd2, h.each.exc hx hd, h.apart⟩
theorem PgO.exc {D : Nat → Obj → Prop} {B : Nat} {w w' : World} {v : Value} {p : Pg} (h : PgO B w v p) (hx : Exc D w w') (hd : ∀ k cs, B ≤ k → ¬ D k (.cells cs 5 (0, 0))) (hd2 : ∀ k cs, B ≤ k → ¬ D k (.cells cs 51 (0, 0))) : PgO B w' v p := by
  obtain ⟨iA, ic, dA, dc, ps, h1, h2, h3, h4⟩ := h.ex
  exact ⟨iA, ic, dA, dc, ps, h1, h2.exc hx hd hd2, ownsRow_exc h3 hx hd, h4⟩
theorem Rd.exc {D : Nat → Obj → Prop} {w0 w w' : World} {A : Option Addr} {bs : List UInt8} (h : Rd w0 A bs) (h0 : Ext w0 w) (hx : Exc D w w') (hd : ∀ k o, D k o → w0.heap.size ≤ k) : Rd w' A bs := h.ext (hx.to_ext h0 hd)
end Go.Proofs.Ytjjbckdiojleeaa
