/- Rows of items whose keys lie anywhere; the contract of lettered. No condition but that what comes in lies in memory. -/
import Derived.Test.YtjjbckdiojleeaaNwith
import Derived.Deep.MidRow
namespace Go.Proofs.Ytjjbckdiojleeaa
set_option linter.unusedVariables false
open Go.RowKit Go.Proofs
/-- Of all keys and values of a row of items E holds. -/
def Each (E : Value → List UInt8 → Prop) : List (Value × Value) → List It → Prop
  | [], [] => True
  | p :: ps, x :: xs => E p.1 x.key ∧ E p.2 x.val ∧ Each E ps xs
  | _, _ => False
theorem Each.length {E : Value → List UInt8 → Prop} : ∀ {ps : List (Value × Value)} {xs : List It}, Each E ps xs → ps.length = xs.length
  | [], [], _ => rfl
  | p :: ps, x :: xs, h => by simp [Each.length h.2.2]
  | [], x :: xs, h => h.elim
  | p :: ps, [], h => h.elim
theorem Each.mono {E E' : Value → List UInt8 → Prop} (hE : ∀ v bs, E v bs → E' v bs) : ∀ {ps : List (Value × Value)} {xs : List It}, Each E ps xs → Each E' ps xs
  | [], [], _ => trivial
  | p :: ps, x :: xs, h => ⟨hE _ _ h.1, hE _ _ h.2.1, Each.mono hE h.2.2⟩
  | [], x :: xs, h => h.elim
  | p :: ps, [], h => h.elim
theorem Each.append {E : Value → List UInt8 → Prop} : ∀ {ps : List (Value × Value)} {xs : List It} {qs : List (Value × Value)} {ys : List It}, Each E ps xs → Each E qs ys → Each E (ps ++ qs) (xs ++ ys)
  | [], [], _, _, _, k => k
  | p :: ps, x :: xs, _, _, h, k => ⟨h.1, h.2.1, Each.append h.2.2 k⟩
  | [], x :: xs, _, _, h, _ => h.elim
  | p :: ps, [], _, _, h, _ => h.elim
theorem Each.at_ {E : Value → List UInt8 → Prop} : ∀ {ps : List (Value × Value)} {xs : List It} {i : Nat} {x : It}, Each E ps xs → xs[i]? = some x → ∃ p, ps[i]? = some p ∧ E p.1 x.key ∧ E p.2 x.val
  | [], [], i, x, _, h => by simp at h
  | p :: ps, y :: xs, 0, x, h, hx => by
    simp only [List.getElem?_cons_zero, Option.some.injEq] at hx
    subst hx
    exact ⟨p, rfl, h.1, h.2.1⟩
  | p :: ps, y :: xs, i + 1, x, h, hx => by
    simp only [List.getElem?_cons_succ] at hx ⊢
    exact Each.at_ h.2.2 hx
  | [], x :: xs, _, _, h, _ => h.elim
  | p :: ps, [], _, _, h, _ => h.elim
/-- A row of items of the call's own, their keys anywhere. -/
def RowI (B : Nat) (w : World) (A : Option Addr) (c : Nat) (l : List It) (ps : List (Value × Value)) : Prop := w.ownsRow B 51 4 (.slice A l.length c) l.length (rowCells ps l)
theorem RowI.its {B : Nat} {w : World} {A : Option Addr} {c : Nat} {l : List It} {ps : List (Value × Value)} (h : RowI B w A c l ps) {E : Value → List UInt8 → Prop} (he : Each E ps l) (hE : ∀ v bs, E v bs → ∃ A c, v = .slice A bs.length c ∧ Sl w A c bs) (hl : l.length ≤ 2199023255552) : Its w A c l := by
  have hpl := he.length
  refine ⟨fun hn => ?_, hl, ?_, ?_⟩
  · obtain ⟨g, cap, hv, _, _⟩ := World.ownsRow.form h hn
    injection hv with hA
    subst hA
    refine ⟨g, 0, rfl, fun i x hx => ?_⟩
    obtain ⟨p, hp, e1, e2⟩ := he.at_ hx
    obtain ⟨kA, kc, hk1, hk2⟩ := hE _ _ e1
    obtain ⟨vA, vc, hv1, hv2⟩ := hE _ _ e2
    have hi : i < l.length := (List.getElem?_eq_some_iff.1 hx).1
    have hcell : ∀ j, j < 4 → w.cell? ⟨g, i * 4 + j, none⟩ = (itCells p x)[j]? := fun j hj => by
      rw [World.ownsRow.cellAt h (i * 4 + j) (by omega)]
      exact rowCells_at ps l i j p x hp hx hj
    refine ⟨kA, kc, vA, vc, ?_, ?_, ?_, ?_, hk2, hv2⟩
    · rw [Nat.zero_add, show i * 4 = i * 4 + 0 by omega, hcell 0 (by omega)]; simp [itCells, hk1]
    · rw [Nat.zero_add, hcell 1 (by omega)]; simp [itCells, hv1]
    · rw [Nat.zero_add, hcell 2 (by omega)]; simp [itCells]
    · rw [Nat.zero_add, hcell 3 (by omega)]; simp [itCells]
  · rcases h.2 with ⟨hv, h0⟩ | ⟨g, cap, cur, hv, _, _, hle, _⟩
    · omega
    · injection hv with _ _ hc
      subst hc
      exact hle
  · rcases h.2 with ⟨hv, h0⟩ | ⟨g, cap, cur, hv, _, _, _, hm, _⟩
    · injection hv with _ _ hc
      omega
    · injection hv with _ _ hc
      subst hc
      simpa [maxLen] using hm
theorem RowI.nil (B : Nat) (w : World) : RowI B w none 0 [] [] := ⟨rfl, .inl ⟨rfl, rfl⟩⟩
theorem RowI.ext {B : Nat} {w w' : World} {A : Option Addr} {c : Nat} {l : List It} {ps : List (Value × Value)} (h : RowI B w A c l ps) (he : Ext w w') : RowI B w' A c l ps := by
  refine ⟨h.1, ?_⟩
  rcases h.2 with h0 | ⟨g, cap, cur, hv, hb, hg, r⟩
  · exact .inl h0
  · exact .inr ⟨g, cap, cur, hv, hb, he.blk hg, r⟩
/-- Behind an append of one item. -/
theorem RowI.push {B : Nat} {w2 : World} {l : List It} {ps : List (Value × Value)} (hl : ps.length = l.length) {x : It} {kv vv : Value} {v' : Value} {n : Nat} (hnl : n = l.length + 1)
    (hown : w2.ownsRow B 51 4 v' n (rowCells ps l ++ [kv, vv, .int .i64 x.ch, .int .i64 x.sz])) : ∃ A' c', v' = .slice A' (l.length + 1) c' ∧ RowI B w2 A' c' (l ++ [x]) (ps ++ [(kv, vv)]) := by
  subst hnl
  obtain ⟨A', c', rfl⟩ := slice_of_own hown
  refine ⟨A', c', rfl, ?_⟩
  unfold RowI
  rw [rowCells_append ps l _ _ hl, List.length_append]
  exact hown
/-- A literal of bytes that lies in a block of its own. -/
def LitIn (B : Nat) (bs : List UInt8) (v : Value) (w : World) : Prop := bs = [] ∧ v = .slice none 0 0 ∨ ∃ g fr, v = .slice (some ⟨g, 0, none⟩) bs.length bs.length ∧ B ≤ g ∧ w.heap[g]? = some (.cells (cells8 bs).toArray 5 fr)
theorem LitIn.ext {B : Nat} {bs : List UInt8} {v : Value} {w w' : World} (h : LitIn B bs v w) (he : Ext w w') : LitIn B bs v w' := by
  rcases h with h | ⟨g, fr, h1, h2, h3⟩
  · exact .inl h
  · exact .inr ⟨g, fr, h1, h2, he.blk h3⟩
theorem LitIn.exc {D : Nat → Obj → Prop} {B : Nat} {bs : List UInt8} {v : Value} {w w' : World} (h : LitIn B bs v w) (hx : Exc D w w') (hd : ∀ k cs fr, B ≤ k → ¬ D k (.cells cs 5 fr)) : LitIn B bs v w' := by
  rcases h with h | ⟨g, fr, h1, h2, h3⟩
  · exact .inl h
  · exact .inr ⟨g, fr, h1, h2, hx.blk h3 (hd g _ _ h2)⟩
theorem LitIn.sl {B : Nat} {bs : List UInt8} {v : Value} {w : World} (h : LitIn B bs v w) (hl : bs.length ≤ 64) : ∃ A c, v = .slice A bs.length c ∧ Sl w A c bs := by
  rcases h with ⟨rfl, rfl⟩ | ⟨g, fr, h1, h2, h3⟩
  · exact ⟨none, 0, rfl, Rd.nil _ _, by decide, by decide, by decide⟩
  · refine ⟨_, _, h1, fun hn => ⟨g, 0, rfl, fun i hi => ?_⟩, by omega, Nat.le_refl _, by omega⟩
    rw [cell_of_row w g _ _ _ fr h3, Nat.zero_add]
    have := cells8_at hi
    simpa using this
/-- What lettered makes of the letter c at place i. -/
def letIt (kind : Int) (i : Nat) (c : UInt8) : It := if kind = 1 then ⟨[c], [c, 1], 0, 2⟩ else ⟨if c = 45 then [] else [c], [], 3 + i, 0⟩
def letIts (kind : Int) : Nat → List UInt8 → List It
  | _, [] => []
  | i, c :: cs => letIt kind i c :: letIts kind (i + 1) cs
theorem letIts_length (kind : Int) : ∀ (i : Nat) (cs : List UInt8), (letIts kind i cs).length = cs.length
  | _, [] => rfl
  | i, c :: cs => by simp [letIts, letIts_length kind (i + 1) cs]
theorem letIts_snoc (kind : Int) : ∀ (i : Nat) (cs : List UInt8) (c : UInt8), letIts kind i (cs ++ [c]) = letIts kind i cs ++ [letIt kind (i + cs.length) c]
  | i, [], c => by simp [letIts]
  | i, d :: cs, c => by
    simp only [List.cons_append, letIts, letIts_snoc kind (i + 1) cs c, List.length_cons]
    rw [show i + 1 + cs.length = i + (cs.length + 1) by omega]
def letPg (kind level : Int) (cs : List UInt8) : Pg := ⟨kind, level, letIts kind 0 cs, [], 0⟩
theorem letIt_small (kind : Int) (i : Nat) (c : UInt8) : (letIt kind i c).key.length ≤ 64 ∧ (letIt kind i c).val.length ≤ 64 := by
  unfold letIt
  split
  · exact ⟨by simp, by simp⟩
  · simp only
    split <;> exact ⟨by simp, by simp⟩
end Go.Proofs.Ytjjbckdiojleeaa
