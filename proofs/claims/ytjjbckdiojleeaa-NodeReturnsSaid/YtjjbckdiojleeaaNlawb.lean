/- Plain laws of pages: the halves joined, what is lent lent back, the ways of keys. No program. -/
import Derived.Test.YtjjbckdiojleeaaNlaws
import Derived.Test.YtjjbckdiojleeaaRjoin
import Derived.Test.YtjjbckdiojleeaaNsearch
namespace Go.Proofs.Ytjjbckdiojleeaa
set_option linter.unusedVariables false
open Go.RowKit Go.Proofs
theorem row_part {l r a b : Pg} {row : List It} {n : Nat} {s : List UInt8} (h : partB l r row n = some (a, b, s)) (hn : n < row.length) : rowB a b s = row := by
  obtain ⟨x, hx⟩ : ∃ x, row[n]? = some x := ⟨_, List.getElem?_eq_getElem hn⟩
  have hl : (row.take n).length = n := by simp; omega
  unfold partB at h
  by_cases hk : l.kind = 2
  · rw [if_pos hk, List.getD_eq_getElem?_getD, hx, Option.getD_some, modify_drop hx] at h
    simp only [Option.some.injEq, Prod.mk.injEq] at h
    obtain ⟨rfl, rfl, rfl⟩ := h
    show rowB { l with items := row.take n } _ _ = row
    unfold rowB
    rw [if_pos hk]
    show (row.take n ++ x.keyed [] :: row.drop (n + 1)).modify (row.take n).length _ = row
    rw [modify_app]
    show row.take n ++ (x.keyed []).keyed x.key :: row.drop (n + 1) = row
    rw [show (x.keyed []).keyed x.key = x from rfl, ← drop_cons_of hx, List.take_append_drop]
  · rw [if_neg hk] at h
    cases hb : betwB (row.getD (n - 1) It.zero).key (row.getD n It.zero).key with
    | none => rw [hb] at h; cases h
    | some k =>
      rw [hb] at h
      simp only [Option.map_some, Option.some.injEq, Prod.mk.injEq] at h
      obtain ⟨rfl, rfl, rfl⟩ := h
      unfold rowB
      rw [if_neg hk]
      exact List.take_append_drop n row
theorem part_a {l r a b : Pg} {row : List It} {n : Nat} {s : List UInt8} (h : partB l r row n = some (a, b, s)) : a = { l with items := row.take n } ∧ b = { r with items := b.items } ∧ b.items.length = row.length - n := by
  unfold partB at h
  split at h
  · simp only [Option.some.injEq, Prod.mk.injEq] at h
    obtain ⟨rfl, rfl, rfl⟩ := h
    exact ⟨rfl, rfl, by simp⟩
  · cases hb : betwB (row.getD (n - 1) It.zero).key (row.getD n It.zero).key with
    | none => rw [hb] at h; cases h
    | some k =>
      rw [hb] at h
      simp only [Option.map_some, Option.some.injEq, Prod.mk.injEq] at h
      obtain ⟨rfl, rfl, rfl⟩ := h
      exact ⟨rfl, rfl, by simp⟩
theorem neigh_of {l r : Pg} (hk : l.kind = 1 ∨ l.kind = 2) (h1 : l.kind = r.kind) (h2 : l.level = r.level) : neighB l r = true := by
  unfold neighB meantB
  rcases hk with h | h
  · simp [← h1, ← h2, h]
  · simp [← h1, ← h2, h]
/-- The halves of a full page fit, and joined they are the page. -/
theorem halves_law {p : Pg} (h : OkP p) (h3 : p.kind ≠ 3) (h8 : p.items.length = 8) : ∃ a b s, splitB p = some (a, b, s) ∧ FitP a b s ∧ a.items.length = 4 ∧ joinB a b s = (p, true) := by
  have hl := h.okL h3
  obtain ⟨a, b, s, e, ha, hbk, hbl, hb, _, _, _, _, _, hf⟩ := part_fit hl hl rfl rfl hl.row (n := 4) (by omega) (by omega)
  have hfit := hf (by omega) (by omega) (fun _ => by omega)
  have hsp : splitB p = some (a, b, s) := by
    unfold splitB
    rw [if_pos ⟨by unfold meantB; rcases hl.kind with h | h <;> simp [h], h8⟩, e]
  have hr := row_part e (by omega)
  have hal : a.items.length = 4 := by rw [ha]; simp; omega
  refine ⟨a, b, s, hsp, hfit, hal, ?_⟩
  unfold joinB
  rw [if_pos ⟨neigh_of (by rw [ha]; exact hl.kind) hfit.kind hfit.level, by omega, by omega, by omega⟩, hr, ha]
theorem split_len {p : Pg} (h : (splitB p).isSome = true) : p.items.length = 8 := by
  unfold splitB at h
  split at h
  · rename_i hc; exact hc.2
  · cases h
/-! ### Lent, and lent back -/
structure Sides (l r : Pg) (toR : Bool) (g t : List It) : Prop where
  g : g = if toR = true then l.items else r.items
  t : t = if toR = true then r.items else l.items
theorem fit_min {l r : Pg} {sep : List UInt8} (h : FitP l r sep) : 1 ≤ l.items.length ∧ 1 ≤ r.items.length ∧ l.items.length ≤ 8 ∧ r.items.length ≤ 8 := by
  have h1 := (h.okl.okL h.meant)
  have h2 := (h.okr.okL (h.kind ▸ h.meant))
  have m1 := h1.min
  have m2 := h2.min
  have n1 := h1.n
  have n2 := h2.n
  split at m1 <;> split at m2 <;> omega
def givesN (l r : Pg) (toR : Bool) : Nat := match toR with | true => l.items.length | false => r.items.length
def takesN (l r : Pg) (toR : Bool) : Nat := match toR with | true => r.items.length | false => l.items.length
theorem lendOk_iff {l r : Pg} {sep : List UInt8} (h : FitP l r sep) (toR : Bool) : lendOk l r toR = (decide (2 ≤ givesN l r toR) && decide (takesN l r toR < 8)) := by
  have hm := fit_min h
  have hn := neigh_of (h.okl.okL h.meant).kind h.kind h.level
  unfold lendOk givesN takesN
  rw [hn, Bool.true_and]
  cases toR
  · rw [Bool.eq_iff_iff]; simp only [Bool.and_eq_true, decide_eq_true_eq]; omega
  · rw [Bool.eq_iff_iff]; simp only [Bool.and_eq_true, decide_eq_true_eq]; omega
/-- What is lent: the row is the same. -/
theorem lend_law {l r : Pg} {sep : List UInt8} (h : FitP l r sep) (toR : Bool) : (lendB l r sep toR).isSome = lendOk l r toR := by
  have hm := fit_min h
  unfold lendB
  split
  · rename_i hok
    have h2 := hok
    rw [lendOk_iff h] at h2
    simp only [Bool.and_eq_true, decide_eq_true_eq] at h2
    have hrl := rowB_length l r sep
    obtain ⟨a, b, s, e, _⟩ := part_fit (h.okl.okL h.meant) (h.okr.okL (h.kind ▸ h.meant)) h.kind h.level h.row (n := lendN l toR) (by unfold lendN givesN at *; cases toR <;> simp at * <;> omega) (by unfold lendN givesN at *; cases toR <;> simp at * <;> omega)
    rw [e, hok]
    rfl
  · rename_i hok
    simp at hok
    rw [hok]
    rfl
structure Lent (l r : Pg) (sep : List UInt8) (toR : Bool) (a b : Pg) (s : List UInt8) : Prop where
  row : rowB a b s = rowB l r sep
  kind : a.kind = l.kind ∧ b.kind = r.kind
  takes : takesN a b toR = takesN l r toR + 1
  fit : (l.kind = 2 → 3 ≤ givesN l r toR) → FitP a b s
  back : (l.kind = 2 → 3 ≤ givesN l r toR) → ∃ u, lendB a b s (!toR) = some (l, r, u) ∧ (l.kind ≠ 1 → u = sep) ∧ FitP l r u
  keys : ∀ i x, (rowB l r sep)[i]? = some x → (i < a.items.length → LtB x.key s) ∧ (a.items.length ≤ i → LeB s x.key)
  n : 1 ≤ a.items.length ∧ a.items.length < (rowB l r sep).length
  len : s.length ≤ 24
theorem fit_row_take {l r : Pg} {sep : List UInt8} : (rowB l r sep).take l.items.length = l.items := by
  rw [rowB_tl]
  simp
theorem lend_some {l r a b : Pg} {sep s : List UInt8} {toR : Bool} (h : FitP l r sep) (hs : lendB l r sep toR = some (a, b, s)) : Lent l r sep toR a b s := by
  have hm := fit_min h
  have hok : lendOk l r toR = true := by rw [← lend_law h, hs]; rfl
  have e : partB l r (rowB l r sep) (lendN l toR) = some (a, b, s) := by
    unfold lendB at hs
    rwa [if_pos hok] at hs
  have h2 := hok
  rw [lendOk_iff h] at h2
  simp only [Bool.and_eq_true, decide_eq_true_eq] at h2
  have hrl := rowB_length l r sep
  have hL := h.okl.okL h.meant
  have hR := h.okr.okL (h.kind ▸ h.meant)
  have hmin : l.kind = 2 → 2 ≤ l.items.length ∧ 2 ≤ r.items.length := fun hk => by
    have m1 := hL.min
    have m2 := hR.min
    rw [if_neg (by omega)] at m1
    rw [if_neg (by have := h.kind; omega)] at m2
    exact ⟨m1, m2⟩
  have hn1 : 1 ≤ lendN l toR := by unfold lendN givesN at *; cases toR <;> simp at * <;> omega
  have hn2 : lendN l toR < (rowB l r sep).length := by unfold lendN givesN at *; cases toR <;> simp at * <;> omega
  obtain ⟨a', b', s', e', ha, hbk, hbl, hb, h1i, h2i, hlt, hsl, hle, hf⟩ := part_fit hL hR h.kind h.level h.row hn1 hn2
  rw [e] at e'
  simp only [Option.some.injEq, Prod.mk.injEq] at e'
  obtain ⟨rfl, rfl, rfl⟩ := e'
  have hal : a.items.length = lendN l toR := by rw [ha]; simp; omega
  have hfit : (l.kind = 2 → 3 ≤ givesN l r toR) → FitP a b s := fun h3 => by
    refine hf ?_ ?_ ?_
    · unfold lendN givesN takesN at *; cases toR <;> simp at * <;> omega
    · unfold lendN givesN takesN at *; cases toR <;> simp at * <;> omega
    · intro hk
      have := hmin hk
      have := h3 hk
      unfold lendN givesN takesN at *; cases toR <;> simp at * <;> omega
  have hrow := row_part e hn2
  refine ⟨hrow, ⟨by rw [ha], hbk⟩, ?_, hfit, ?_, ?_, ⟨by omega, by omega⟩, hsl.2⟩
  · unfold takesN lendN givesN at *; cases toR <;> simp at * <;> omega
  · intro h3
    have hF := hfit h3
    have hmF := fit_min hF
    have hok2 : lendOk a b (!toR) = true := by
      rw [lendOk_iff hF]
      simp only [Bool.and_eq_true, decide_eq_true_eq]
      unfold givesN takesN lendN at *; cases toR <;> simp at * <;> omega
    have hN : lendN a (!toR) = l.items.length := by
      unfold lendN at *; cases toR <;> simp at * <;> omega
    have hax : { a with items := l.items } = l := by rw [ha]
    have hlb : lendB a b s (!toR) = partB a b (rowB l r sep) l.items.length := by
      unfold lendB
      rw [if_pos hok2, hrow, hN]
    obtain ⟨x, hx⟩ : ∃ x, (rowB l r sep)[l.items.length]? = some x := ⟨_, List.getElem?_eq_getElem (by omega)⟩
    rcases hL.kind with hk1 | hk2
    · obtain ⟨c, d, u, e2, hc, hdk, hdl, hd, hd1, _, _, hul, _, hf2⟩ := part_fit (hF.okl.okL hF.meant) (hF.okr.okL (hF.kind ▸ hF.meant)) hF.kind hF.level (by rw [show a.kind = l.kind by rw [ha]]; exact h.row) (n := l.items.length) (by omega) (by omega)
      have hcl : c = l := by rw [hc, fit_row_take, hax]
      have hdr : d = r := by
        rw [hd, hd1 (by rw [ha]; exact hk1)]
        have : (rowB l r sep).drop l.items.length = r.items := by
          unfold rowB
          rw [if_neg (by omega)]
          simp
        rw [this, hb]
      subst hcl hdr
      refine ⟨u, by rw [hlb, e2], fun h => absurd hk1 h, hf2 (by omega) (by omega) (fun h => by rw [ha] at h; exact absurd h (by show ¬ c.kind = 2; omega))⟩
    · have hrs : ∃ z rest, r.items = z :: rest := by
        cases hri : r.items with
        | nil => have := hmin hk2; rw [hri] at this; simp at this
        | cons z rest => exact ⟨z, rest, rfl⟩
      obtain ⟨z, rest, hre⟩ := hrs
      have hzk : z.key = [] := by
        have := hR.row
        rw [← h.kind, hk2] at this
        exact key_zero this (by rw [hre]; rfl)
      have hrw : rowB l r sep = l.items ++ z.keyed sep :: rest := by
        unfold rowB
        rw [if_pos hk2, hre, modify_app]
        rfl
      have hxz : x = z.keyed sep := by
        rw [hrw, List.getElem?_append_right (Nat.le_refl _), Nat.sub_self, List.getElem?_cons_zero] at hx
        injection hx with hx
        exact hx.symm
      refine ⟨sep, ?_, fun _ => rfl, h⟩
      rw [hlb]
      unfold partB
      rw [if_pos (by rw [ha]; exact hk2), fit_row_take, hax, List.getD_eq_getElem?_getD, hx, Option.getD_some, modify_drop hx, hxz]
      have h5 : (rowB l r sep).drop (l.items.length + 1) = rest := by
        rw [hrw]
        simp
      rw [h5]
      have h6 : (z.keyed sep).keyed [] = z := by
        obtain ⟨k, v, c, s⟩ := z
        simp only at hzk
        subst hzk
        rfl
      rw [h6, ← hre, show { b with items := r.items } = r by rw [hb]]
      rfl
  · intro i x hx
    exact ⟨fun hi => hlt i x hx (by omega), fun hi => hle i x hx (by omega)⟩
/-! ### The ways of keys -/
def leadB (p : Pg) (k : List UInt8) : It × Bool :=
  if p.kind = 2 then (match p.items[routI p.items k]? with | some x => (⟨[], [], x.ch, 0⟩, true) | none => (It.zero, false))
  else (match p.items[srchI p.items k]? with | some x => if eqB x.key k = true then (x, true) else (It.zero, false) | none => (It.zero, false))
def foundB (l r : Pg) (sep k : List UInt8) : It × Bool := leadB (if cmpB k sep < 0 then l else r) k
theorem routN_le (l : List It) (k : List UInt8) : routN l k ≤ l.length := by
  induction l with
  | nil => exact Nat.le_refl _
  | cons x l ih =>
    unfold routN
    split
    · simp; omega
    · exact Nat.zero_le _
theorem routI_lt {l : List It} (h : 0 < l.length) (k : List UInt8) : routI l k < l.length := by
  unfold routI
  have := routN_le (l.drop 1) k
  rw [List.length_drop] at this
  omega
theorem routN_stop (pre : List It) {x : It} {suf : List It} {k : List UInt8} (h : 0 < cmpB x.key k) : routN (pre ++ x :: suf) k = routN pre k := by
  induction pre with
  | nil =>
    show routN (x :: suf) k = 0
    unfold routN
    rw [if_neg (by omega)]
  | cons y pre ih =>
    simp only [List.cons_append]
    unfold routN
    rw [ih]
theorem srchI_stop (pre : List It) {x : It} {suf : List It} {k : List UInt8} (h : 0 ≤ cmpB x.key k) : srchI (pre ++ x :: suf) k = srchI pre k := by
  induction pre with
  | nil =>
    show srchI (x :: suf) k = 0
    unfold srchI
    rw [if_neg (by omega)]
  | cons y pre ih =>
    simp only [List.cons_append]
    unfold srchI
    rw [ih]
theorem srchI_le (l : List It) (k : List UInt8) : srchI l k ≤ l.length := by
  induction l with
  | nil => exact Nat.le_refl _
  | cons x l ih =>
    unfold srchI
    split
    · simp; omega
    · exact Nat.zero_le _
/-- A row of a leaf parted, and a key that lies on one side: it leads where it led. -/
theorem lead_leaf {la lb : List It} {s k : List UInt8} (h1 : ∀ x ∈ la, LtB x.key s) (h2 : ∀ x ∈ lb, LeB s x.key) {p q : Pg} (hp : p.kind ≠ 2) (hq : q.kind ≠ 2) (hpi : p.items = la ++ lb) (hqi : q.items = if cmpB k s < 0 then la else lb) : leadB p k = leadB q k := by
  unfold leadB
  rw [if_neg hp, if_neg hq, hpi, hqi]
  by_cases hc : cmpB k s < 0
  · rw [if_pos hc]
    cases lb with
    | nil => rw [List.append_nil]
    | cons b lb =>
      have hb : LtB k b.key := LtB.trans_le hc (h2 b (by simp))
      have hg : 0 < cmpB b.key k := gt_iff.2 hb
      rw [srchI_stop la (by omega)]
      by_cases hlt : srchI la k < la.length
      · rw [List.getElem?_append_left hlt]
      · have : srchI la k = la.length := by have := srchI_le la k; omega
        rw [this, List.getElem?_append_right (Nat.le_refl _), Nat.sub_self, List.getElem?_cons_zero, List.getElem?_eq_none (Nat.le_refl _)]
        simp only
        rw [if_neg]
        intro he
        unfold eqB at he
        simp only [decide_eq_true_eq] at he
        rw [he, cmpB_self] at hg
        omega
  · rw [if_neg hc]
    have hk : LeB s k := ge_iff.1 (by omega)
    have hal : AllLt la k := fun y hy => ((h1 y hy).trans_le hk)
    rw [srchI_app hal, List.getElem?_append_right (by omega), Nat.add_sub_cancel_left]
/-- The same of an index. -/
theorem lead_index {la lb : List It} {z z' : It} {s k : List UInt8} (hne : la ≠ []) (h1 : ∀ x ∈ la, LtB x.key s) (hz : z.key = s) (hch : z'.ch = z.ch) {p q : Pg} (hp : p.kind = 2) (hq : q.kind = 2) (hpi : p.items = la ++ z :: lb) (hqi : q.items = if cmpB k s < 0 then la else z' :: lb) : leadB p k = leadB q k := by
  unfold leadB
  rw [if_pos hp, if_pos hq, hpi, hqi]
  obtain ⟨y, la, rfl⟩ : ∃ y l, la = y :: l := by
    cases la with
    | nil => exact absurd rfl hne
    | cons y l => exact ⟨y, l, rfl⟩
  by_cases hc : cmpB k s < 0
  · rw [if_pos hc]
    have hg : 0 < cmpB z.key k := by rw [hz]; exact gt_iff.2 hc
    have e : routI (y :: la ++ z :: lb) k = routI (y :: la) k := by
      unfold routI
      simp only [List.cons_append, List.drop_succ_cons, List.drop_zero]
      exact routN_stop la hg
    rw [e, List.getElem?_append_left (routI_lt (by simp) k)]
  · rw [if_neg hc]
    have hk : LeB s k := ge_iff.1 (by omega)
    have hal : AllLe la k := fun x hx => (((h1 x (by simp [hx])).trans_le hk)).le
    have hzk : cmpB z.key k ≤ 0 := by rw [hz]; exact hk
    have e : routI (y :: la ++ z :: lb) k = (y :: la).length + routI (z' :: lb) k := by
      unfold routI
      simp only [List.cons_append, List.drop_succ_cons, List.drop_zero]
      rw [routN_app hal]
      have e2 : routN (z :: lb) k = routN lb k + 1 := by
        show (if cmpB z.key k ≤ 0 then routN lb k + 1 else 0) = _
        rw [if_pos hzk]
      rw [e2, List.length_cons]
      omega
    rw [e, List.getElem?_append_right (by omega), Nat.add_sub_cancel_left]
    cases hr : routI (z' :: lb) k with
    | zero => simp [hch]
    | succ n => simp
/-- The way of a key in two pages that fit is that in the page of both. -/
theorem found_fit {l r : Pg} {sep k : List UInt8} (h : FitP l r sep) : foundB l r sep k = leadB { l with items := rowB l r sep } k := by
  have hL := h.okl.okL h.meant
  have hR := h.okr.okL (h.kind ▸ h.meant)
  have hm := fit_min h
  have hrow := h.row
  obtain ⟨y, hy⟩ : ∃ y, l.items[l.items.length - 1]? = some y := ⟨_, List.getElem?_eq_getElem (by omega)⟩
  have hleft : LtB y.key sep := by have := h.left; rw [List.getD_eq_getElem?_getD, hy] at this; exact this
  have hall : ∀ a ∈ l.items, LtB a.key sep := fun a ha => by
    obtain ⟨i, hi⟩ := List.mem_iff_getElem?.1 ha
    have hil := (List.getElem?_eq_some_iff.1 hi).1
    by_cases e : i = l.items.length - 1
    · subst e
      rw [hy] at hi
      injection hi with hi
      subst hi
      exact hleft
    · exact (hL.row.lt (by omega) hi hy).trans hleft
  have hright := h.right
  rcases hL.kind with h1 | h2
  · rw [if_pos h1] at hright
    have hr1 : RowOk 1 r.items := by have := hR.row; rwa [← h.kind, h1] at this
    obtain ⟨z, hz⟩ : ∃ z, r.items[0]? = some z := ⟨_, List.getElem?_eq_getElem (by omega)⟩
    rw [List.getD_eq_getElem?_getD, hz] at hright
    have hrall : ∀ b ∈ r.items, LeB sep b.key := fun b hb => by
      obtain ⟨i, hi⟩ := List.mem_iff_getElem?.1 hb
      by_cases e : i = 0
      · subst e
        rw [hz] at hi
        injection hi with hi
        subst hi
        exact hright
      · exact (hright.trans_lt (hr1.lt (by omega) hz hi)).le
    unfold foundB
    refine (lead_leaf (la := l.items) (lb := r.items) (s := sep) hall hrall (by show l.kind ≠ 2; omega) ?_ ?_ ?_).symm
    · split
      · omega
      · have := h.kind; omega
    · show rowB l r sep = _
      unfold rowB
      rw [if_neg (by omega)]
    · split <;> rfl
  · obtain ⟨z, rest, hre⟩ : ∃ z rest, r.items = z :: rest := by
      cases hri : r.items with
      | nil => rw [hri] at hm; simp at hm
      | cons z rest => exact ⟨z, rest, rfl⟩
    unfold foundB
    refine (lead_index (la := l.items) (lb := rest) (z := z.keyed sep) (z' := z) (s := sep) (fun e => by rw [e] at hm; simp at hm) hall rfl rfl (by show l.kind = 2; omega) ?_ ?_ ?_).symm
    · split
      · omega
      · have := h.kind; omega
    · show rowB l r sep = _
      unfold rowB
      rw [if_pos h2, hre, modify_app]
      rfl
    · split
      · rfl
      · exact hre
/-- The way of a key in what is lent. -/
theorem found_lent {l r a b : Pg} {sep s k : List UInt8} {toR : Bool} (h : FitP l r sep) (hs : lendB l r sep toR = some (a, b, s)) : foundB a b s k = foundB l r sep k := by
  have hT := lend_some h hs
  have hL := h.okl.okL h.meant
  have hok : lendOk l r toR = true := by rw [← lend_law h, hs]; rfl
  have e : partB l r (rowB l r sep) (lendN l toR) = some (a, b, s) := by
    unfold lendB at hs
    rwa [if_pos hok] at hs
  rw [found_fit h]
  have ha := (part_a e).1
  have hk := hT.kind
  have hn := hT.n
  have hrow := hT.row
  have hka : ∀ x ∈ a.items, LtB x.key s := fun x hx => by
    obtain ⟨i, hi⟩ := List.mem_iff_getElem?.1 hx
    have hil := (List.getElem?_eq_some_iff.1 hi).1
    refine (hT.keys i x ?_).1 hil
    rw [ha] at hi
    simp only [List.getElem?_take] at hi
    split at hi
    · exact hi
    · cases hi
  rcases hL.kind with h1 | h2
  · have hra : rowB l r sep = a.items ++ b.items := by
      rw [← hrow]
      unfold rowB
      rw [if_neg (by omega)]
    unfold foundB
    refine (lead_leaf (la := a.items) (lb := b.items) (s := s) hka (fun x hx => ?_) (by show l.kind ≠ 2; omega) ?_ hra ?_).symm
    · obtain ⟨i, hi⟩ := List.mem_iff_getElem?.1 hx
      refine (hT.keys (a.items.length + i) x ?_).2 (by omega)
      rw [hra, List.getElem?_append_right (by omega), Nat.add_sub_cancel_left]
      exact hi
    · split
      · omega
      · have := h.kind; omega
    · split <;> rfl
  · obtain ⟨x, hx⟩ : ∃ x, (rowB l r sep)[lendN l toR]? = some x := by
      have h5 : lendN l toR < (rowB l r sep).length := by
        have h6 : a.items.length = min (lendN l toR) (rowB l r sep).length := by rw [ha]; simp
        omega
      exact ⟨_, List.getElem?_eq_getElem h5⟩
    have e2 := e
    unfold partB at e2
    rw [if_pos h2, List.getD_eq_getElem?_getD, hx, Option.getD_some, modify_drop hx] at e2
    simp only [Option.some.injEq, Prod.mk.injEq] at e2
    obtain ⟨e3, e4, e5⟩ := e2
    have hbi : b.items = x.keyed [] :: (rowB l r sep).drop (lendN l toR + 1) := by rw [← e4]
    have hai : a.items = (rowB l r sep).take (lendN l toR) := by rw [← e3]
    unfold foundB
    refine (lead_index (la := a.items) (lb := (rowB l r sep).drop (lendN l toR + 1)) (z := x) (z' := x.keyed []) (s := s) (fun e => by rw [e] at hn; simp at hn) hka e5 rfl (by show l.kind = 2; omega) ?_ ?_ ?_).symm
    · split
      · omega
      · have := h.kind; omega
    · show rowB l r sep = _
      rw [hai, ← drop_cons_of hx, List.take_append_drop]
    · split
      · rfl
      · exact hbi
/-- Joined, the page is in order, and the way is the same. -/
theorem join_law {l r : Pg} {sep : List UInt8} (h : FitP l r sep) : (joinB l r sep).2 = decide (l.items.length + r.items.length ≤ 8) ∧ (l.items.length + r.items.length ≤ 8 → OkP (joinB l r sep).1 ∧ ∀ k, leadB (joinB l r sep).1 k = foundB l r sep k) := by
  have hm := fit_min h
  have hL := h.okl.okL h.meant
  have hn := neigh_of hL.kind h.kind h.level
  by_cases h8 : l.items.length + r.items.length ≤ 8
  · have e : joinB l r sep = ({ l with items := rowB l r sep }, true) := by
      unfold joinB
      rw [if_pos ⟨hn, hm.1, hm.2.1, h8⟩]
    rw [e]
    refine ⟨by simp [h8], fun _ => ⟨(hL.sub h.row (by rw [rowB_length]; exact h8) (by rw [rowB_length]; split <;> omega)).okP, fun k => (found_fit h).symm⟩⟩
  · have e : joinB l r sep = (Pg.zero, false) := by
      unfold joinB
      rw [if_neg (fun hh => h8 hh.2.2.2)]
    rw [e]
    exact ⟨by simp [h8], fun hh => absurd hh h8⟩
theorem found_index {l r : Pg} {sep k : List UInt8} (h : FitP l r sep) (h2 : l.kind = 2) : (foundB l r sep k).2 = true := by
  rw [found_fit h]
  unfold leadB
  rw [if_pos h2]
  have hm := fit_min h
  have hlt : routI (rowB l r sep) k < (rowB l r sep).length := routI_lt (by rw [rowB_length]; omega) k
  show (match (rowB l r sep)[routI (rowB l r sep) k]? with | some x => ((⟨[], [], x.ch, 0⟩ : It), true) | none => (It.zero, false)).2 = true
  rw [List.getElem?_eq_getElem hlt]
end Go.Proofs.Ytjjbckdiojleeaa
