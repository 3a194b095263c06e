/- Sizes of what Insert, Replace, Remove, Split, Join and Lend answer: plain laws. No condition. -/
import Derived.Test.YtjjbckdiojleeaaNsplit
import Derived.Test.YtjjbckdiojleeaaNput
namespace Go.Proofs.Ytjjbckdiojleeaa
open Go.RowKit Go.Proofs
set_option linter.unusedVariables false
structure BI (x : It) : Prop where
  k : x.key.length ≤ 1048576
  v : x.val.length ≤ 1048576
structure BS (n : Nat) (p : Pg) : Prop where
  n : p.items.length ≤ n
  each : ∀ x ∈ p.items, BI x
  d : p.data.length ≤ 1048576
theorem BS.zero (n : Nat) : BS n Pg.zero := ⟨Nat.zero_le _, (fun _ h => by cases h), Nat.zero_le _⟩
theorem BS.le {n m : Nat} {p : Pg} (h : BS n p) (hm : n ≤ m) : BS m p := ⟨Nat.le_trans h.n hm, h.each, h.d⟩
theorem BS.small {n : Nat} {p : Pg} (h : BS n p) (hn : n ≤ 2199023255552) : PSmall p := ⟨by have := h.n; omega, fun x hx => ⟨by have := (h.each x hx).k; omega, by have := (h.each x hx).v; omega⟩, by have := h.d; omega⟩
theorem mem_modify {α : Type} {l : List α} {i : Nat} {f : α → α} {y : α} (h : y ∈ l.modify i f) : ∃ x ∈ l, y = x ∨ y = f x := by
  obtain ⟨j, hj⟩ := List.mem_iff_getElem?.1 h
  rw [List.getElem?_modify] at hj
  cases hl : l[j]? with
  | none => rw [hl] at hj; simp at hj
  | some x =>
    rw [hl] at hj
    have hx := List.mem_of_getElem? hl
    simp only [Option.map_eq_map, Option.map_some, Option.some.injEq] at hj
    split at hj
    · exact ⟨x, hx, .inr hj.symm⟩
    · exact ⟨x, hx, .inl hj.symm⟩
theorem BI.keyed {x : It} (h : BI x) {k : List UInt8} (hk : k.length ≤ 1048576) : BI (x.keyed k) := ⟨hk, h.v⟩
theorem bi_modify {l : List It} (h : ∀ x ∈ l, BI x) {i : Nat} {k : List UInt8} (hk : k.length ≤ 1048576) : ∀ x ∈ l.modify i (·.keyed k), BI x := fun x hx => by
  obtain ⟨y, hy, rfl | rfl⟩ := mem_modify hx
  · exact h _ hy
  · exact (h _ hy).keyed hk
theorem bi_getD {l : List It} (h : ∀ x ∈ l, BI x) (i : Nat) : BI (l.getD i It.zero) := by
  rw [List.getD_eq_getElem?_getD]
  cases hl : l[i]? with
  | none => exact ⟨Nat.zero_le _, Nat.zero_le _⟩
  | some x => exact h x (List.mem_of_getElem? hl)
section
variable {p q : Pg} {x : It} {a : Int} {sep : List UInt8} {toR : Bool}
theorem BS.ins (h : BS 1048576 p) (hx : BI x) : BS 2097152 (insB p a x).1 := by
  unfold insB
  split
  · rename_i hc
    refine ⟨?_, fun y hy => ?_, h.d⟩
    · simp only [List.length_append, List.length_take, List.length_drop, List.length_cons, List.length_nil]; have := h.n; omega
    · simp only [List.mem_append, List.mem_singleton] at hy
      rcases hy with (hy | rfl) | hy
      · exact h.each y (List.mem_of_mem_take hy)
      · exact hx
      · exact h.each y (List.mem_of_mem_drop hy)
  · exact BS.zero _
theorem BS.rep (h : BS 1048576 p) (hx : BI x) : BS 2097152 (repB p a x).1 := by
  unfold repB
  split
  · refine ⟨?_, fun y hy => ?_, h.d⟩
    · simp only [List.length_append, List.length_take, List.length_drop, List.length_cons, List.length_nil]; have := h.n; omega
    · simp only [List.mem_append, List.mem_singleton] at hy
      rcases hy with (hy | rfl) | hy
      · exact h.each y (List.mem_of_mem_take hy)
      · exact hx
      · exact h.each y (List.mem_of_mem_drop hy)
  · exact BS.zero _
theorem BS.rem (h : BS 1048576 p) : BS 2097152 (remB p a).1 := by
  unfold remB
  split
  · refine ⟨?_, fun y hy => ?_, h.d⟩
    · simp only [List.length_append, List.length_take, List.length_drop]; have := h.n; omega
    · rcases List.mem_append.1 hy with hy | hy
      · exact h.each y (List.mem_of_mem_take hy)
      · exact h.each y (List.mem_of_mem_drop hy)
  · exact BS.zero _
theorem bi_row (h : ∀ x ∈ p.items, BI x) (k : ∀ x ∈ q.items, BI x) (hs : sep.length ≤ 1048576) : ∀ x ∈ rowB p q sep, BI x := by
  have h0 : ∀ x ∈ p.items ++ q.items, BI x := fun x hx => (List.mem_append.1 hx).elim (h x) (k x)
  unfold rowB
  split
  · exact bi_modify h0 hs
  · exact h0
theorem betw_len {a b s : List UInt8} (h : betwB a b = some s) : s.length ≤ 1048576 := by
  unfold betwB at h
  split at h
  · cases h
  · split at h
    · cases h
    · rename_i h1 h2
      split at h <;> · injection h with h; subst h; simp only [List.length_append, List.length_take, List.length_cons, List.length_nil]; omega
theorem BS.part {row : List It} {n : Nat} (h : ∀ x ∈ row, BI x) (hn : row.length ≤ 2097152) (hp : p.data.length ≤ 1048576) (hq : q.data.length ≤ 1048576) :
    BS 2097152 (part1 (partB p q row n)) ∧ BS 2097152 (part2 (partB p q row n)) ∧ (part3 (partB p q row n)).length ≤ 1048576 := by
  have t1 : BS 2097152 { p with items := row.take n } := ⟨by simp only [List.length_take]; omega, fun x hx => h x (List.mem_of_mem_take hx), hp⟩
  have t2 : ∀ x ∈ row.drop n, BI x := fun x hx => h x (List.mem_of_mem_drop hx)
  unfold partB
  split
  · exact ⟨t1, ⟨by simp only [part2, List.length_modify, List.length_drop]; omega, bi_modify t2 (Nat.zero_le _), hq⟩, (bi_getD h n).k⟩
  · cases hb : betwB (row.getD (n - 1) It.zero).key (row.getD n It.zero).key with
    | none => exact ⟨BS.zero _, BS.zero _, Nat.zero_le _⟩
    | some s => exact ⟨t1, ⟨by simp only [part2, Option.map_some, List.length_drop]; omega, t2, hq⟩, betw_len hb⟩
theorem BS.none_ : BS 2097152 (part1 none) ∧ BS 2097152 (part2 none) ∧ (part3 none).length ≤ 1048576 := ⟨BS.zero _, BS.zero _, Nat.zero_le _⟩
theorem BS.split_ (h : BS 1048576 p) : BS 2097152 (part1 (splitB p)) ∧ BS 2097152 (part2 (splitB p)) ∧ (part3 (splitB p)).length ≤ 1048576 := by
  unfold splitB
  split
  · exact BS.part h.each (by have := h.n; omega) h.d h.d
  · exact BS.none_
theorem BS.join (h : BS 1048576 p) (k : BS 1048576 q) (hs : sep.length ≤ 1048576) : BS 2097152 (joinB p q sep).1 := by
  unfold joinB
  split
  · exact ⟨by show (rowB p q sep).length ≤ _; rw [rowB_length]; have := h.n; have := k.n; omega, bi_row h.each k.each hs, h.d⟩
  · exact BS.zero _
theorem BS.lend (h : BS 1048576 p) (k : BS 1048576 q) (hs : sep.length ≤ 1048576) : BS 2097152 (part1 (lendB p q sep toR)) ∧ BS 2097152 (part2 (lendB p q sep toR)) ∧ (part3 (lendB p q sep toR)).length ≤ 1048576 := by
  unfold lendB
  split
  · exact BS.part (bi_row h.each k.each hs) (by rw [rowB_length]; have := h.n; have := k.n; omega) h.d k.d
  · exact BS.none_
end
end Go.Proofs.Ytjjbckdiojleeaa
