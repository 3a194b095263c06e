/- Plain laws of pages: what Check says, what fits side by side, what halves, joins and lends keep. No program. -/
import Derived.Test.YtjjbckdiojleeaaNsmall
namespace Go.Proofs.Ytjjbckdiojleeaa
set_option linter.unusedVariables false
open Go.RowKit Go.Proofs
def isPageB (n : Int) : Bool := decide (1 ≤ n) && decide (n ≤ 65536)
def chFormB (p : Pg) : Bool :=
  if p.kind = 3 then decide (p.level = 0) && (decide (p.items.length = 0) && (decide (1 ≤ p.data.length) && decide (p.data.length ≤ 480)))
  else if 0 < p.data.length ∨ p.next ≠ 0 ∨ 8 < p.items.length then false
  else if p.kind = 1 then decide (p.level = 0) && decide (1 ≤ p.items.length)
  else decide (1 ≤ p.level) && (decide (p.level ≤ 11) && decide (2 ≤ p.items.length))
def chKeyB (kind : Int) (i : Nat) (x : It) : Bool := if kind = 2 ∧ i = 0 then decide (x.key.length = 0) else isKeyB x.key
def chValB (kind : Int) (x : It) : Bool :=
  if kind = 2 then decide (x.val.length = 0) && decide (x.sz = 0)
  else if x.sz < 0 ∨ 3840 < x.sz then false
  else if x.sz ≤ 32 then decide ((x.val.length : Int) = x.sz) else decide (x.val.length = 0)
def chChB (kind : Int) (x : It) : Bool := if kind = 1 ∧ x.sz ≤ 32 then decide (x.ch = 0) else isPageB x.ch
def chOrdB (l : List It) (i : Nat) (x : It) : Bool := decide (i = 0) || decide (0 < cmpB x.key (l.getD (i - 1) It.zero).key)
def chItB (kind : Int) (l : List It) (i : Nat) : Bool := chKeyB kind i (l.getD i It.zero) && (chOrdB l i (l.getD i It.zero) && (chValB kind (l.getD i It.zero) && chChB kind (l.getD i It.zero)))
def AllIt (kind : Int) (l : List It) (k : Nat) : Prop := ∀ i, i < k → chItB kind l i = true
/-- Nothing is wrong with a page. -/
structure OkP (p : Pg) : Prop where
  kind : p.kind = 1 ∨ p.kind = 2 ∨ p.kind = 3
  form : chFormB p = true
  each : AllIt p.kind p.items p.items.length
  next : p.kind = 3 → p.next ≠ 0 → isPageB p.next = true
/-- A row of items in which nothing is wrong. -/
structure RowOk (kind : Int) (l : List It) : Prop where
  key : ∀ i x, l[i]? = some x → chKeyB kind i x = true
  sort : l.Pairwise fun x y => LtB x.key y.key
  val : ∀ x ∈ l, chValB kind x = true
  ch : ∀ x ∈ l, chChB kind x = true
theorem key_of {kind : Int} {l : List It} (h : RowOk kind l) {i : Nat} {x : It} (hx : l[i]? = some x) (hk : kind ≠ 2 ∨ 0 < i) : 1 ≤ x.key.length ∧ x.key.length ≤ 24 := by
  have h1 := h.key i x hx
  unfold chKeyB at h1
  rw [if_neg (by omega)] at h1
  exact isKeyB_iff.1 h1
theorem key_zero {l : List It} (h : RowOk 2 l) {x : It} (hx : l[0]? = some x) : x.key = [] := by
  have h1 := h.key 0 x hx
  unfold chKeyB at h1
  rw [if_pos ⟨rfl, rfl⟩] at h1
  simpa using h1
theorem lt_step {l : List It} (h : ∀ (i : Nat) (x y : It), l[i]? = some x → l[i + 1]? = some y → LtB x.key y.key) : l.Pairwise fun x y => LtB x.key y.key := by
  induction l with
  | nil => exact List.Pairwise.nil
  | cons a l ih =>
    have ih' := ih (fun i x y hx hy => h (i + 1) x y (by simpa using hx) (by simpa using hy))
    refine List.Pairwise.cons (fun b hb => ?_) ih'
    cases l with
    | nil => cases hb
    | cons c l =>
      have hac := h 0 a c (by simp) (by simp)
      rcases List.mem_cons.1 hb with rfl | hb
      · exact hac
      · exact hac.trans ((List.pairwise_cons.1 ih').1 b hb)
theorem OkP.row {p : Pg} (h : OkP p) : RowOk p.kind p.items := by
  have hi : ∀ i x, p.items[i]? = some x → chKeyB p.kind i x = true ∧ chOrdB p.items i x = true ∧ chValB p.kind x = true ∧ chChB p.kind x = true := fun i x hx => by
    have h1 := h.each i (List.getElem?_eq_some_iff.1 hx).1
    unfold chItB at h1
    rw [List.getD_eq_getElem?_getD, hx, Option.getD_some] at h1
    simpa [Bool.and_eq_true] using h1
  refine ⟨fun i x hx => (hi i x hx).1, lt_step fun i x y hx hy => ?_, fun x hx => ?_, fun x hx => ?_⟩
  · have h1 := (hi _ y hy).2.1
    unfold chOrdB at h1
    rw [Nat.add_sub_cancel, List.getD_eq_getElem?_getD, hx, Option.getD_some] at h1
    simp at h1
    exact gt_iff.1 h1
  · obtain ⟨i, hi'⟩ := List.mem_iff_getElem?.1 hx
    exact (hi i x hi').2.2.1
  · obtain ⟨i, hi'⟩ := List.mem_iff_getElem?.1 hx
    exact (hi i x hi').2.2.2
theorem RowOk.lt {kind : Int} {l : List It} (h : RowOk kind l) {i j : Nat} {x y : It} (hij : i < j) (hx : l[i]? = some x) (hy : l[j]? = some y) : LtB x.key y.key := by
  obtain ⟨h1, rfl⟩ := List.getElem?_eq_some_iff.1 hx
  obtain ⟨h2, rfl⟩ := List.getElem?_eq_some_iff.1 hy
  exact List.pairwise_iff_getElem.1 h.sort i j h1 h2 hij
theorem RowOk.all {kind : Int} {l : List It} (h : RowOk kind l) : AllIt kind l l.length := fun i hi => by
  have hx : l[i]? = some l[i] := List.getElem?_eq_getElem hi
  unfold chItB
  rw [List.getD_eq_getElem?_getD, hx, Option.getD_some]
  have hm : l[i] ∈ l := List.getElem_mem hi
  rw [h.key i _ hx, h.val _ hm, h.ch _ hm]
  simp only [Bool.and_true, Bool.true_and]
  unfold chOrdB
  by_cases h0 : i = 0
  · simp [h0]
  · have hy : l[i - 1]? = some l[i - 1] := List.getElem?_eq_getElem (by omega)
    rw [List.getD_eq_getElem?_getD, hy, Option.getD_some]
    have := h.lt (i := i - 1) (j := i) (by omega) hy hx
    simp [gt_iff.2 this]
theorem RowOk.take {kind : Int} {l : List It} (h : RowOk kind l) (n : Nat) : RowOk kind (l.take n) := by
  refine ⟨fun i x hx => h.key i x ?_, h.sort.sublist (List.take_sublist n l), fun x hx => h.val x (List.mem_of_mem_take hx), fun x hx => h.ch x (List.mem_of_mem_take hx)⟩
  rw [List.getElem?_take] at hx
  split at hx
  · exact hx
  · cases hx
theorem RowOk.drop1 {l : List It} (h : RowOk 1 l) (n : Nat) : RowOk 1 (l.drop n) := by
  refine ⟨fun i x hx => ?_, h.sort.sublist (List.drop_sublist n l), fun x hx => h.val x (List.mem_of_mem_drop hx), fun x hx => h.ch x (List.mem_of_mem_drop hx)⟩
  rw [List.getElem?_drop] at hx
  have := h.key _ x hx
  unfold chKeyB at *
  rw [if_neg (by omega)] at *
  exact this
theorem chVal_keyed (kind : Int) (x : It) (k : List UInt8) : chValB kind (x.keyed k) = chValB kind x := rfl
theorem chCh_keyed (kind : Int) (x : It) (k : List UInt8) : chChB kind (x.keyed k) = chChB kind x := rfl
theorem modify_app (l r : List It) (f : It → It) : (l ++ r).modify l.length f = l ++ r.modify 0 f := by
  induction l with
  | nil => rfl
  | cons a l ih => simp only [List.cons_append, List.length_cons, List.modify_succ_cons, ih]
theorem drop_cons_of {l : List It} {n : Nat} {x : It} (hx : l[n]? = some x) : l.drop n = x :: l.drop (n + 1) := by
  obtain ⟨h, rfl⟩ := List.getElem?_eq_some_iff.1 hx
  exact List.drop_eq_getElem_cons h
theorem modify_drop {l : List It} {n : Nat} {x : It} (hx : l[n]? = some x) (k : List UInt8) : (l.drop n).modify 0 (·.keyed k) = x.keyed k :: l.drop (n + 1) := by
  rw [drop_cons_of hx]
  rfl
theorem RowOk.drop2 {l : List It} (h : RowOk 2 l) (n : Nat) {x : It} (hx : l[n]? = some x) : RowOk 2 (x.keyed [] :: l.drop (n + 1)) := by
  have hmem : ∀ y ∈ l.drop (n + 1), y ∈ l := fun y hy => List.mem_of_mem_drop hy
  have hk : ∀ (i : Nat) (y : It), (l.drop (n + 1))[i]? = some y → 1 ≤ y.key.length ∧ y.key.length ≤ 24 := fun i y hy => by
    rw [List.getElem?_drop] at hy
    exact key_of h hy (.inr (by omega))
  refine ⟨fun i y hy => ?_, ?_, fun y hy => ?_, fun y hy => ?_⟩
  · cases i with
    | zero =>
      simp only [List.getElem?_cons_zero, Option.some.injEq] at hy
      subst hy
      rfl
    | succ i =>
      simp only [List.getElem?_cons_succ] at hy
      unfold chKeyB
      rw [if_neg (by omega)]
      exact isKeyB_iff.2 (hk i y hy)
  · refine List.Pairwise.cons (fun y hy => ?_) (h.sort.sublist (List.drop_sublist _ l))
    obtain ⟨i, hi⟩ := List.mem_iff_getElem?.1 hy
    have h1 := (hk i y hi).1
    show LtB [] y.key
    cases hyk : y.key with
    | nil => rw [hyk] at h1; simp at h1
    | cons u v => exact LtB.nil_cons u v
  · rcases List.mem_cons.1 hy with rfl | hy
    · rw [chVal_keyed]; exact h.val x (List.mem_of_getElem? hx)
    · exact h.val y (hmem y hy)
  · rcases List.mem_cons.1 hy with rfl | hy
    · rw [chCh_keyed]; exact h.ch x (List.mem_of_getElem? hx)
    · exact h.ch y (hmem y hy)
/-- Two neighbours fit, with a separator. -/
structure FitP (l r : Pg) (sep : List UInt8) : Prop where
  okl : OkP l
  okr : OkP r
  kind : l.kind = r.kind
  level : l.level = r.level
  meant : l.kind ≠ 3
  len : 1 ≤ sep.length ∧ sep.length ≤ 24
  left : LtB (l.items.getD (l.items.length - 1) It.zero).key sep
  right : if l.kind = 1 then LeB sep (r.items.getD 0 It.zero).key else LtB sep (r.items.getD 1 It.zero).key
/-- A page that is no blob, with which nothing is wrong. -/
structure OkL (p : Pg) : Prop where
  kind : p.kind = 1 ∨ p.kind = 2
  level : if p.kind = 1 then p.level = 0 else 1 ≤ p.level ∧ p.level ≤ 11
  data : p.data = []
  next : p.next = 0
  n : p.items.length ≤ 8
  min : if p.kind = 1 then 1 ≤ p.items.length else 2 ≤ p.items.length
  row : RowOk p.kind p.items
theorem OkP.okL {p : Pg} (h : OkP p) (h3 : p.kind ≠ 3) : OkL p := by
  have hk : p.kind = 1 ∨ p.kind = 2 := by have := h.kind; omega
  have hf := h.form
  unfold chFormB at hf
  rw [if_neg h3] at hf
  by_cases hc : 0 < p.data.length ∨ p.next ≠ 0 ∨ 8 < p.items.length
  · rw [if_pos hc] at hf; cases hf
  rw [if_neg hc] at hf
  simp only [not_or, Nat.not_lt, Nat.le_zero_eq, List.length_eq_zero_iff, ne_eq, Decidable.not_not] at hc
  obtain ⟨hd, hn, hl⟩ := hc
  rcases hk with hk | hk
  · rw [if_pos hk] at hf
    simp only [Bool.and_eq_true, decide_eq_true_eq] at hf
    exact ⟨.inl hk, by rw [if_pos hk]; exact hf.1, hd, hn, hl, by rw [if_pos hk]; exact hf.2, h.row⟩
  · rw [if_neg (by omega)] at hf
    simp only [Bool.and_eq_true, decide_eq_true_eq] at hf
    exact ⟨.inr hk, by rw [if_neg (by omega)]; exact ⟨hf.1, hf.2.1⟩, hd, hn, hl, by rw [if_neg (by omega)]; exact hf.2.2, h.row⟩
theorem OkL.okP {p : Pg} (h : OkL p) : OkP p := by
  have hk := h.kind
  refine ⟨by omega, ?_, h.row.all, fun h3 => by omega⟩
  unfold chFormB
  rw [if_neg (by omega), if_neg (by
    simp only [not_or, Nat.not_lt, Nat.le_zero_eq, List.length_eq_zero_iff, ne_eq, Decidable.not_not]
    exact ⟨h.data, h.next, h.n⟩)]
  have hlv := h.level
  have hmn := h.min
  rcases hk with hk | hk
  · rw [if_pos hk] at hlv hmn ⊢
    simp [hlv, hmn]
  · rw [if_neg (by omega)] at hlv hmn ⊢
    simp [hlv.1, hlv.2, hmn]
theorem OkL.sub {p : Pg} (h : OkL p) {l : List It} (hr : RowOk p.kind l) (hn : l.length ≤ 8) (hm : if p.kind = 1 then 1 ≤ l.length else 2 ≤ l.length) : OkL { p with items := l } :=
  ⟨h.kind, h.level, h.data, h.next, hn, hm, hr⟩
/-- What a row in which nothing is wrong is parted into, fits. -/
theorem part_fit {l r : Pg} {row : List It} {n : Nat} (hl : OkL l) (hr : OkL r) (hk : l.kind = r.kind) (hlv : l.level = r.level) (hrow : RowOk l.kind row) (hn : 1 ≤ n) (hn2 : n < row.length) :
    ∃ a b s, partB l r row n = some (a, b, s) ∧ a = { l with items := row.take n } ∧ b.kind = r.kind ∧ b.items.length = row.length - n ∧
      (b = { r with items := b.items }) ∧ (l.kind = 1 → b.items = row.drop n) ∧ (l.kind = 2 → ∃ x, row[n]? = some x ∧ s = x.key ∧ b.items = x.keyed [] :: row.drop (n + 1)) ∧
      (∀ i x, row[i]? = some x → i < n → LtB x.key s) ∧ (1 ≤ s.length ∧ s.length ≤ 24) ∧ (∀ i x, row[i]? = some x → n ≤ i → LeB s x.key) ∧
      (row.length - n ≤ 8 → n ≤ 8 → (l.kind = 2 → 2 ≤ n ∧ n + 2 ≤ row.length) → FitP a b s) := by
  obtain ⟨x, hx⟩ : ∃ x, row[n]? = some x := ⟨_, List.getElem?_eq_getElem hn2⟩
  obtain ⟨y, hy⟩ : ∃ y, row[n - 1]? = some y := ⟨_, List.getElem?_eq_getElem (by omega)⟩
  have hyx : LtB y.key x.key := hrow.lt (by omega) hy hx
  have hlast : (row.take n).getD ((row.take n).length - 1) It.zero = y := by
    have h1 : (row.take n).length = n := by simp; omega
    rw [h1, List.getD_eq_getElem?_getD, List.getElem?_take, if_pos (by omega), hy]
    rfl
  rcases hl.kind with h1 | h2
  · have hrow1 : RowOk 1 row := h1 ▸ hrow
    have hxk := key_of hrow1 hx (.inl (by decide))
    obtain ⟨s, hs⟩ := betwB_key hyx hxk.2
    obtain ⟨s1, s2, s3, s4, _⟩ := betwB_some hs
    refine ⟨_, { r with items := row.drop n }, s, ?_, rfl, rfl, by simp, rfl, fun _ => rfl, fun h => by omega, fun i z hz hi => ?_, ⟨s1, s2⟩, fun i z hz hi => ?_, fun m1 m2 _ => ?_⟩
    · unfold partB
      rw [if_neg (by omega), List.getD_eq_getElem?_getD, List.getD_eq_getElem?_getD, hx, hy]
      simp only [Option.getD_some]
      rw [hs]
      rfl
    · by_cases e : i = n - 1
      · subst e
        rw [hy] at hz
        injection hz with hz
        subst hz
        exact s3
      · exact (hrow.lt (by omega) hz hy).trans s3
    · by_cases e : i = n
      · subst e
        rw [hx] at hz
        injection hz with hz
        subst hz
        exact s4
      · exact (s4.trans_lt (hrow.lt (by omega) hx hz)).le
    · have ha : OkL { l with items := row.take n } := hl.sub (hrow.take n) (by simp; omega) (by rw [if_pos h1]; simp; omega)
      have hb : OkL { r with items := row.drop n } := hr.sub (by rw [← hk, h1]; exact hrow1.drop1 n) (by simp; omega) (by rw [if_pos (by omega)]; simp; omega)
      refine ⟨ha.okP, hb.okP, hk, hlv, by show l.kind ≠ 3; omega, ⟨s1, s2⟩, ?_, ?_⟩
      · show LtB ((row.take n).getD _ _).key s
        rw [hlast]; exact s3
      · show if l.kind = 1 then LeB s ((row.drop n).getD 0 It.zero).key else _
        rw [if_pos h1, List.getD_eq_getElem?_getD, List.getElem?_drop, Nat.add_zero, hx]
        exact s4
  · have hrow2 : RowOk 2 row := h2 ▸ hrow
    have hxk := key_of hrow2 hx (.inr (by omega))
    refine ⟨_, { r with items := x.keyed [] :: row.drop (n + 1) }, x.key, ?_, rfl, rfl, by simp; omega, rfl, fun h => by omega, fun _ => ⟨x, hx, rfl, rfl⟩, fun i z hz hi => hrow.lt hi hz hx, hxk, fun i z hz hi => ?_, fun m1 m2 m3 => ?_⟩
    · unfold partB
      rw [if_pos h2, List.getD_eq_getElem?_getD, hx, modify_drop hx]
      rfl
    · by_cases e : i = n
      · subst e
        rw [hx] at hz
        injection hz with hz
        subst hz
        exact LeB.refl _
      · exact (hrow.lt (by omega) hx hz).le
    · obtain ⟨m4, m5⟩ := m3 h2
      obtain ⟨z, hz⟩ : ∃ z, row[n + 1]? = some z := ⟨_, List.getElem?_eq_getElem (by omega)⟩
      have ha : OkL { l with items := row.take n } := hl.sub (hrow.take n) (by simp; omega) (by rw [if_neg (by omega)]; simp; omega)
      have hb : OkL { r with items := x.keyed [] :: row.drop (n + 1) } := hr.sub (by rw [← hk, h2]; exact hrow2.drop2 n hx) (by simp; omega) (by rw [if_neg (by omega)]; simp; omega)
      refine ⟨ha.okP, hb.okP, hk, hlv, by show l.kind ≠ 3; omega, hxk, ?_, ?_⟩
      · show LtB ((row.take n).getD _ _).key x.key
        rw [hlast]; exact hyx
      · show if l.kind = 1 then _ else LtB x.key ((x.keyed [] :: row.drop (n + 1)).getD 1 It.zero).key
        rw [if_neg (by omega), List.getD_eq_getElem?_getD, List.getElem?_cons_succ, List.getElem?_drop, Nat.add_zero, hz]
        exact hrow.lt (by omega) hx hz
theorem FitP.row {l r : Pg} {sep : List UInt8} (h : FitP l r sep) : RowOk l.kind (rowB l r sep) := by
  have hl := h.okl.okL h.meant
  have hr := h.okr.okL (h.kind ▸ h.meant)
  have hk := h.kind
  have lmin : 1 ≤ l.items.length := by have := hl.min; split at this <;> omega
  obtain ⟨y, hy⟩ : ∃ y, l.items[l.items.length - 1]? = some y := ⟨_, List.getElem?_eq_getElem (by omega)⟩
  have hleft : LtB y.key sep := by have := h.left; rw [List.getD_eq_getElem?_getD, hy] at this; exact this
  have hall : ∀ a ∈ l.items, LtB a.key sep := fun a ha => by
    obtain ⟨i, hi⟩ := List.mem_iff_getElem?.1 ha
    have hil := (List.getElem?_eq_some_iff.1 hi).1
    by_cases e : i = l.items.length - 1
    · subst e
      rw [hy] at hi
      injection hi with hi
      subst hi
      exact hleft
    · exact (hl.row.lt (by omega) hi hy).trans hleft
  have hright := h.right
  rcases hl.kind with h1 | h2
  · rw [if_pos h1] at hright
    have hr1 : RowOk 1 r.items := by have := hr.row; rwa [← hk, h1] at this
    have hl1 : RowOk 1 l.items := by have := hl.row; rwa [h1] at this
    have hrl : 1 ≤ r.items.length := by have := hr.min; rw [if_pos (by omega)] at this; omega
    obtain ⟨z, hz⟩ : ∃ z, r.items[0]? = some z := ⟨_, List.getElem?_eq_getElem (by omega)⟩
    rw [List.getD_eq_getElem?_getD, hz] at hright
    have hrall : ∀ b ∈ r.items, LeB sep b.key := fun b hb => by
      obtain ⟨i, hi⟩ := List.mem_iff_getElem?.1 hb
      by_cases e : i = 0
      · subst e
        rw [hz] at hi
        injection hi with hi
        subst hi
        exact hright
      · exact (hright.trans_lt (hr1.lt (by omega) hz hi)).le
    unfold rowB
    rw [if_neg (by omega), h1]
    refine ⟨fun i x hx => ?_, List.pairwise_append.2 ⟨hl1.sort, hr1.sort, fun a ha b hb => (hall a ha).trans_le (hrall b hb)⟩, fun x hx => ?_, fun x hx => ?_⟩
    · unfold chKeyB
      rw [if_neg (by omega)]
      rcases List.mem_append.1 (List.mem_of_getElem? hx) with hm | hm
      · obtain ⟨j, hj⟩ := List.mem_iff_getElem?.1 hm
        exact isKeyB_iff.2 (key_of hl1 hj (.inl (by decide)))
      · obtain ⟨j, hj⟩ := List.mem_iff_getElem?.1 hm
        exact isKeyB_iff.2 (key_of hr1 hj (.inl (by decide)))
    · rcases List.mem_append.1 hx with hm | hm
      · exact hl1.val x hm
      · exact hr1.val x hm
    · rcases List.mem_append.1 hx with hm | hm
      · exact hl1.ch x hm
      · exact hr1.ch x hm
  · rw [if_neg (by omega)] at hright
    have hr2 : RowOk 2 r.items := by have := hr.row; rwa [← hk, h2] at this
    have hl2 : RowOk 2 l.items := by have := hl.row; rwa [h2] at this
    have hrl : 2 ≤ r.items.length := by have := hr.min; rw [if_neg (by omega)] at this; omega
    obtain ⟨z0, rest, hre⟩ : ∃ z0 rest, r.items = z0 :: rest := by
      cases hri : r.items with
      | nil => rw [hri] at hrl; simp at hrl
      | cons a b => exact ⟨a, b, rfl⟩
    obtain ⟨z, hz⟩ : ∃ z, rest[0]? = some z := ⟨_, List.getElem?_eq_getElem (by rw [hre] at hrl; simp at hrl; omega)⟩
    rw [List.getD_eq_getElem?_getD, hre, List.getElem?_cons_succ, hz] at hright
    rw [hre] at hr2
    have hkr : ∀ (i : Nat) (x : It), rest[i]? = some x → 1 ≤ x.key.length ∧ x.key.length ≤ 24 := fun i x hx => key_of hr2 (i := i + 1) (by simpa using hx) (.inr (by omega))
    have hrall : ∀ b ∈ rest, LtB sep b.key := fun b hb => by
      obtain ⟨i, hi⟩ := List.mem_iff_getElem?.1 hb
      by_cases e : i = 0
      · subst e
        rw [hz] at hi
        injection hi with hi
        subst hi
        exact hright
      · exact LtB.trans hright (hr2.lt (i := 1) (j := i + 1) (by omega) (by simpa using hz) (by simpa using hi))
    have he : rowB l r sep = l.items ++ z0.keyed sep :: rest := by
      unfold rowB
      rw [if_pos h2, hre, modify_app]
      rfl
    rw [he, h2]
    refine ⟨fun i x hx => ?_, List.pairwise_append.2 ⟨hl2.sort, List.Pairwise.cons (fun b hb => hrall b hb) (List.pairwise_cons.1 hr2.sort).2, fun a ha b hb => ?_⟩, fun x hx => ?_, fun x hx => ?_⟩
    · rw [List.getElem?_append] at hx
      split at hx
      · exact hl2.key i x hx
      · unfold chKeyB
        rw [if_neg (by omega)]
        cases hi : i - l.items.length with
        | zero =>
          rw [hi] at hx
          simp only [List.getElem?_cons_zero, Option.some.injEq] at hx
          subst hx
          exact isKeyB_iff.2 h.len
        | succ j =>
          rw [hi] at hx
          simp only [List.getElem?_cons_succ] at hx
          exact isKeyB_iff.2 (hkr j x hx)
    · rcases List.mem_cons.1 hb with rfl | hb
      · exact hall a ha
      · exact (hall a ha).trans (hrall b hb)
    · rcases List.mem_append.1 hx with hm | hm
      · exact hl2.val x hm
      · rcases List.mem_cons.1 hm with rfl | hm
        · rw [chVal_keyed]; exact hr2.val z0 (by simp)
        · exact hr2.val x (by simp [hm])
    · rcases List.mem_append.1 hx with hm | hm
      · exact hl2.ch x hm
      · rcases List.mem_cons.1 hm with rfl | hm
        · rw [chCh_keyed]; exact hr2.ch z0 (by simp)
        · exact hr2.ch x (by simp [hm])
end Go.Proofs.Ytjjbckdiojleeaa
