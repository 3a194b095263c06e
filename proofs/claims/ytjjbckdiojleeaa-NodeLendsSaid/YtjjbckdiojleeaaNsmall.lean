/- What the statements' pages hold stays small. No condition. -/
import Derived.Test.YtjjbckdiojleeaaNsplit
import Derived.Test.YtjjbckdiojleeaaEqpg
namespace Go.Proofs.Ytjjbckdiojleeaa
set_option linter.unusedVariables false
open Go.RowKit Go.Proofs
theorem betwK_le (a b : List UInt8) : (betwK a b).length ≤ 24 := by
  unfold betwK
  cases h : betwB a b with
  | none => simp
  | some k => exact (betwB_some h).2.1
theorem PSmall.zero : PSmall Pg.zero := ⟨by decide, (fun x hx => (by cases hx)), by decide⟩
theorem PSmall.sub {p : Pg} (h : PSmall p) {l : List It} (h1 : ∀ x ∈ l, Small x) (h2 : l.length ≤ 2199023255552) : PSmall { p with items := l } := ⟨h2, h1, h.d⟩
theorem small_getD {row : List It} (hs : ∀ x ∈ row, Small x) (n : Nat) : (row.getD n It.zero).key.length ≤ 140737488355328 := by
  rw [List.getD_eq_getElem?_getD]
  cases h : row[n]? with
  | none => simp [It.zero]
  | some x => exact (hs x (List.mem_of_getElem? h)).k
theorem small_modify {row : List It} (hs : ∀ x ∈ row, Small x) (n : Nat) : ∀ x ∈ (row.drop n).modify 0 (·.keyed []), Small x := by
  intro x hx
  cases hd : row.drop n with
  | nil => rw [hd] at hx; simp at hx
  | cons y l =>
    have hy : ∀ z ∈ y :: l, Small z := fun z hz => hs z (List.mem_of_mem_drop (by rw [hd]; exact hz))
    rw [hd] at hx
    simp only [List.modify_zero_cons, List.mem_cons] at hx
    rcases hx with rfl | hx
    · exact ⟨by simp [It.keyed], (hy y (by simp)).v⟩
    · exact hy x (by simp [hx])
structure Small3 (o : Option (Pg × Pg × List UInt8)) : Prop where
  a : PSmall (part1 o)
  b : PSmall (part2 o)
  c : (part3 o).length ≤ 140737488355328
theorem Small3.none_ : Small3 none := ⟨PSmall.zero, PSmall.zero, by decide⟩
theorem part_small {l r : Pg} {row : List It} {n : Nat} (hl : PSmall l) (hr : PSmall r) (hs : ∀ x ∈ row, Small x) (hn : row.length ≤ 2199023255552) : Small3 (partB l r row n) := by
  have ht : ∀ x ∈ row.take n, Small x := fun x hx => hs x (List.mem_of_mem_take hx)
  have hd : ∀ x ∈ row.drop n, Small x := fun x hx => hs x (List.mem_of_mem_drop hx)
  have l1 : (row.take n).length ≤ 2199023255552 := by simp; omega
  have l2 : (row.drop n).length ≤ 2199023255552 := by simp; omega
  unfold partB
  split
  · exact ⟨hl.sub ht l1, hr.sub (small_modify hs n) (by simpa using l2), small_getD hs n⟩
  · cases h : betwB (row.getD (n - 1) It.zero).key (row.getD n It.zero).key with
    | none => exact Small3.none_
    | some k =>
      have := (betwB_some h).2.1
      exact ⟨hl.sub ht l1, hr.sub hd l2, show k.length ≤ _ by omega⟩
theorem split_small {p : Pg} (h : PSmall p) : Small3 (splitB p) := by
  unfold splitB
  split
  · exact part_small h h h.each h.n
  · exact Small3.none_
theorem lend_small {p q : Pg} {sep : List UInt8} {t : Bool} (hp : PSmall p) (hq : PSmall q) (hs : sep.length ≤ 140737488355328) (ht : p.items.length + q.items.length ≤ 2199023255552) : Small3 (lendB p q sep t) := by
  unfold lendB
  split
  · exact part_small hp hq (rowB_small hp hq hs) (by rw [rowB_length]; exact ht)
  · exact Small3.none_
theorem join_small {p q : Pg} {sep : List UInt8} (hp : PSmall p) (hq : PSmall q) (hs : sep.length ≤ 140737488355328) : PSmall (joinB p q sep).1 := by
  unfold joinB
  split
  · rename_i h
    exact hp.sub (rowB_small hp hq hs) (by rw [rowB_length]; omega)
  · exact PSmall.zero
theorem ins_small {p : Pg} {a : Int} {x : It} (hp : PSmall p) (hx : Small x) : PSmall (insB p a x).1 := by
  unfold insB
  split
  · rename_i h
    refine hp.sub (fun y hy => ?_) (by simp; omega)
    simp only [List.mem_append, List.mem_cons, List.not_mem_nil, or_false] at hy
    rcases hy with (hy | rfl) | hy
    · exact hp.each y (List.mem_of_mem_take hy)
    · exact hx
    · exact hp.each y (List.mem_of_mem_drop hy)
  · exact PSmall.zero
theorem rep_small {p : Pg} {a : Int} {x : It} (hp : PSmall p) (hx : Small x) : PSmall (repB p a x).1 := by
  have hn := hp.n
  unfold repB
  split
  · rename_i h
    refine hp.sub (fun y hy => ?_) (by simp; omega)
    simp only [List.mem_append, List.mem_cons, List.not_mem_nil, or_false] at hy
    rcases hy with (hy | rfl) | hy
    · exact hp.each y (List.mem_of_mem_take hy)
    · exact hx
    · exact hp.each y (List.mem_of_mem_drop hy)
  · exact PSmall.zero
theorem rem_small {p : Pg} {a : Int} (hp : PSmall p) : PSmall (remB p a).1 := by
  have hn := hp.n
  unfold remB
  split
  · refine hp.sub (fun y hy => ?_) (by simp; omega)
    simp only [List.mem_append] at hy
    rcases hy with hy | hy
    · exact hp.each y (List.mem_of_mem_take hy)
    · exact hp.each y (List.mem_of_mem_drop hy)
  · exact PSmall.zero
theorem eqPg_self (p : Pg) : eqPg p p = true := by simp [eqPg]
end Go.Proofs.Ytjjbckdiojleeaa
