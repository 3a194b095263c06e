/- Cover, plain: what it answers is the one list of ranges in their one form, rising, that lie apart, with the same keys. No condition. -/
import Derived.Test.YtijlaknfagpglaaSpanl
namespace Go.Proofs.Ytijlaknfagpglaa
open Go.RowKit Go.Proofs
set_option linter.unusedVariables false
set_option linter.unusedSimpArgs false
/-- A range in its one form. -/
structure Okf (f : Rg) : Prop where
  key : isKeyB f.lo = true
  op : f.op = true → f.hi = []
  hi : f.op = false → isKeyB f.hi = true ∧ LtB f.lo f.hi
theorem key_nn {k : List UInt8} (h : isKeyB k = true) : k ≠ [] := fun e => by rw [e] at h; exact absurd h (by decide)
theorem fromB_key {k : List UInt8} (h : fromB k ≠ []) : isKeyB (fromB k) = true :=
  isKeyB_iff.2 ⟨by have := List.length_pos_iff.2 h; omega, fromB_length _⟩
theorem has_lo_from {r : Rg} {lo : List UInt8} (hk : isKeyB lo = true) (h : r.op = true ∨ LtB lo r.hi) (h2 : r.op = false) : fromB r.hi = [] ∨ LtB lo (fromB r.hi) := by
  rcases h with h | h
  · rw [h2] at h; cases h
  · by_cases e : fromB r.hi = []
    · exact .inl e
    · right
      rw [← LeB.not] at h ⊢
      exact fun h9 => h ((fromB_iff r.hi lo hk).2 ⟨e, h9⟩)
theorem formB_ok {r f : Rg} (h : formB r = some f) : Okf f := by
  unfold formB at h
  by_cases hr : hasB r (fromB r.lo) = true
  · rw [if_pos hr] at h
    injection h with h
    obtain ⟨h1, h2, h3⟩ := (hasB_iff _ _).1 hr
    cases hop : r.op with
    | true =>
      rw [hop] at h
      subst h
      exact ⟨h1, fun _ => rfl, fun h => by cases h⟩
    | false =>
      rw [hop] at h
      have h4 := has_lo_from h1 h3 hop
      subst h
      refine ⟨h1, fun h => of_decide_eq_true h, fun h => ?_⟩
      have h5 : fromB r.hi ≠ [] := of_decide_eq_false h
      exact ⟨fromB_key h5, h4.resolve_left h5⟩
  · rw [if_neg hr] at h
    cases h
/-- Ranges in their one form, rising, that lie apart. -/
def Canon (cs : List Rg) : Prop := (∀ r ∈ cs, Okf r) ∧ cs.Pairwise fun a b => a.op = false ∧ LtB a.hi b.lo
def anyB (cs : List Rg) (x : List UInt8) : Bool := cs.any fun r => hasB r x
theorem anyB_iff {cs : List Rg} {x : List UInt8} : anyB cs x = true ↔ ∃ r ∈ cs, hasB r x = true := by simp [anyB]
theorem anyB_app (a b : List Rg) (x : List UInt8) : anyB (a ++ b) x = (anyB a x || anyB b x) := by simp [anyB]
theorem anyB_cons (r : Rg) (b : List Rg) (x : List UInt8) : anyB (r :: b) x = (hasB r x || anyB b x) := by simp [anyB]
theorem Canon.tail {r : Rg} {cs : List Rg} (h : Canon (r :: cs)) : Canon cs := ⟨fun t ht => h.1 t (.tail _ ht), (List.pairwise_cons.1 h.2).2⟩
theorem Okf.lt {f : Rg} (h : Okf f) (ho : f.op = false) : LtB f.lo f.hi := (h.hi ho).2
theorem Okf.has_lo {f : Rg} (h : Okf f) : hasB f f.lo = true := by
  rw [hasB_iff]
  refine ⟨h.key, LeB.refl _, ?_⟩
  cases ho : f.op with
  | true => exact .inl rfl
  | false => exact .inr (h.lt ho)
theorem Canon.head_le {r t : Rg} {cs : List Rg} (h : Canon (r :: cs)) (ht : t ∈ r :: cs) : LeB r.lo t.lo := by
  rcases List.mem_cons.1 ht with rfl | ht
  · exact LeB.refl _
  · have h1 := (List.pairwise_cons.1 h.2).1 t ht
    exact (((h.1 r (.head _)).lt h1.1).trans h1.2).le
theorem any_lo {r s : Rg} {a b : List Rg} (ha : Canon (r :: a)) (hb : Canon (s :: b)) (h : ∀ x, isKeyB x = true → anyB (r :: a) x = anyB (s :: b) x) : LeB s.lo r.lo := by
  have hr := ha.1 r (.head _)
  have h1 := h r.lo hr.key
  rw [anyB_cons, hr.has_lo, Bool.true_or] at h1
  obtain ⟨t, ht, h2⟩ := anyB_iff.1 h1.symm
  exact (hb.head_le ht).trans ((hasB_iff _ _).1 h2).2.1
theorem any_hi {r s : Rg} {a b : List Rg} (ha : Canon (r :: a)) (hb : Canon (s :: b)) (h : ∀ x, isKeyB x = true → anyB (r :: a) x = anyB (s :: b) x) (hl : r.lo = s.lo) (ho : r.op = false) : s.op = false ∧ LeB s.hi r.hi := by
  have hr := ha.1 r (.head _)
  have h0 := hr.hi ho
  by_cases hs : hasB s r.hi = true
  · exfalso
    have h1 := h r.hi h0.1
    rw [anyB_cons (r := s), hs, Bool.true_or, anyB_cons] at h1
    have h2 : hasB r r.hi = false := by
      cases h3 : hasB r r.hi with
      | false => rfl
      | true =>
        rcases ((hasB_iff _ _).1 h3).2.2 with h4 | h4
        · rw [ho] at h4; cases h4
        · exact absurd h4 (LtB.irrefl _)
    rw [h2, Bool.false_or] at h1
    obtain ⟨t, ht, h3⟩ := anyB_iff.1 h1
    exact LtB.irrefl _ (((List.pairwise_cons.1 ha.2).1 t ht).2.trans_le ((hasB_iff _ _).1 h3).2.1)
  · have h1 : ¬ (s.op = true ∨ LtB r.hi s.hi) := fun h2 => hs ((hasB_iff _ _).2 ⟨h0.1, by rw [← hl]; exact h0.2.le, h2⟩)
    refine ⟨?_, ?_⟩
    · cases hso : s.op with
      | false => rfl
      | true => exact absurd (.inl hso) h1
    · exact LtB.not.1 fun h2 => h1 (.inr h2)
theorem any_tail {r : Rg} {a : List Rg} (ha : Canon (r :: a)) {x : List UInt8} (hx : hasB r x = true) : anyB a x = false := by
  cases h : anyB a x with
  | false => rfl
  | true =>
    obtain ⟨t, ht, h2⟩ := anyB_iff.1 h
    have h1 := (List.pairwise_cons.1 ha.2).1 t ht
    exfalso
    rcases ((hasB_iff _ _).1 hx).2.2 with h3 | h3
    · rw [h1.1] at h3; cases h3
    · exact LtB.irrefl _ (h3.trans (h1.2.trans_le ((hasB_iff _ _).1 h2).2.1))
theorem canon_uniq : ∀ {a b : List Rg}, Canon a → Canon b → (∀ x, isKeyB x = true → anyB a x = anyB b x) → a = b
  | [], [], _, _, _ => rfl
  | [], s :: b, _, hb, h => by
    have hs := hb.1 s (.head _)
    have := h s.lo hs.key
    rw [anyB_cons, hs.has_lo] at this
    simp [anyB] at this
  | r :: a, [], ha, _, h => by
    have hs := ha.1 r (.head _)
    have := h r.lo hs.key
    rw [anyB_cons, hs.has_lo] at this
    simp [anyB] at this
  | r :: a, s :: b, ha, hb, h => by
    have hsym : ∀ x, isKeyB x = true → anyB (s :: b) x = anyB (r :: a) x := fun x hx => (h x hx).symm
    have hl : r.lo = s.lo := (any_lo hb ha hsym).antisymm (any_lo ha hb h)
    have hr := ha.1 r (.head _)
    have hs := hb.1 s (.head _)
    have hrs : r = s := by
      cases ho : r.op with
      | false =>
        have h1 := any_hi ha hb h hl ho
        have h2 := any_hi hb ha hsym hl.symm h1.1
        have h3 := h2.2.antisymm h1.2
        cases r; cases s
        simp only at hl h3 ho h1
        rw [hl, h3, ho, h1.1]
      | true =>
        cases hso : s.op with
        | false => rw [(any_hi hb ha hsym hl.symm hso).1] at ho; cases ho
        | true =>
          have h1 := hr.op ho
          have h2 := hs.op hso
          cases r; cases s
          simp only at hl h1 h2 ho hso
          rw [hl, h1, h2, ho, hso]
    subst hrs
    congr 1
    refine canon_uniq ha.tail hb.tail fun x hx => ?_
    cases hh : hasB r x with
    | true => rw [any_tail ha hh, any_tail hb hh]
    | false =>
      have := h x hx
      rw [anyB_cons, anyB_cons, hh, Bool.false_or, Bool.false_or] at this
      exact this
/-- One more range, which begins no lower, into the ranges that lie apart. -/
def uniB (x f : Rg) : Rg := if f.op then ⟨x.lo, [], true⟩ else if !x.op && decide (LtB x.hi f.hi) then ⟨x.lo, f.hi, x.op⟩ else x
def sepB (x f : Rg) : Bool := !x.op && decide (LtB x.hi f.lo)
theorem sepB_iff {x f : Rg} : sepB x f = true ↔ x.op = false ∧ LtB x.hi f.lo := by simp [sepB]
theorem canon_snoc {os : List Rg} {x f : Rg} (h : Canon (os ++ [x])) (hf : Okf f) (hs : sepB x f = true) (hle : LeB x.lo f.lo) : Canon (os ++ [x] ++ [f]) := by
  have hs := sepB_iff.1 hs
  refine ⟨fun r hr => ?_, ?_⟩
  · rcases List.mem_append.1 hr with hr | hr
    · exact h.1 r hr
    · rw [List.mem_singleton.1 hr]; exact hf
  · refine List.pairwise_append.2 ⟨h.2, List.pairwise_singleton _ _, fun a ha b hb => ?_⟩
    rw [List.mem_singleton.1 hb]
    rcases List.mem_append.1 ha with ha | ha
    · have h1 := (List.pairwise_append.1 h.2).2.2 a ha x (List.mem_singleton.2 rfl)
      exact ⟨h1.1, h1.2.trans_le hle⟩
    · rw [List.mem_singleton.1 ha]
      exact hs
theorem uniB_lo (x f : Rg) : (uniB x f).lo = x.lo := by unfold uniB; split <;> (try split) <;> rfl
theorem uniB_ok {x f : Rg} (hx : Okf x) (hf : Okf f) (hle : LeB x.lo f.lo) : Okf (uniB x f) := by
  unfold uniB
  split
  · exact ⟨hx.key, fun _ => rfl, fun h => by cases h⟩
  · rename_i h1
    split
    · rename_i h2
      simp only [Bool.and_eq_true, Bool.not_eq_true', decide_eq_true_eq] at h2
      have h3 := hf.hi (by simpa using h1)
      exact ⟨hx.key, fun h => (by rw [h2.1] at h; cases h), fun h => ⟨h3.1, hle.trans_lt h3.2⟩⟩
    · exact hx
theorem uniB_has {x f : Rg} (hx : Okf x) (hf : Okf f) (hle : LeB x.lo f.lo) (hs : sepB x f = false) {y : List UInt8} (hy : isKeyB y = true) : hasB (uniB x f) y = (hasB x y || hasB f y) := by
  have hs : x.op = true ∨ LeB f.lo x.hi := by
    cases ho : x.op with
    | true => exact .inl rfl
    | false =>
      right
      refine LtB.not.1 fun h => ?_
      rw [sepB_iff.2 ⟨ho, h⟩] at hs
      cases hs
  rw [Bool.eq_iff_iff, Bool.or_eq_true, hasB_iff, hasB_iff, hasB_iff, uniB_lo]
  simp only [hy, true_and]
  unfold uniB
  cases hfo : f.op with
  | true =>
    simp only [if_true, true_or, and_true]
    constructor
    · intro h
      rcases hs with hs | hs
      · exact .inl ⟨h, .inl hs⟩
      · by_cases h2 : LtB y x.hi
        · exact .inl ⟨h, .inr h2⟩
        · exact .inr (hs.trans (LtB.not.1 h2))
    · rintro (h | h)
      · exact h.1
      · exact hle.trans h
  | false =>
    simp only [Bool.false_eq_true, if_false, false_or]
    cases hxo : x.op with
    | true =>
      simp only [Bool.not_true, Bool.false_and, Bool.false_eq_true, if_false, hxo, true_or, and_true]
      constructor
      · exact fun h => .inl h
      · rintro (h | h)
        · exact h
        · exact hle.trans h.1
    | false =>
      rw [hxo] at hs
      simp only [Bool.false_eq_true, false_or] at hs
      simp only [Bool.not_false, Bool.true_and, decide_eq_true_eq]
      by_cases hlt : LtB x.hi f.hi
      · rw [if_pos hlt]
        simp only [Bool.false_eq_true, false_or]
        constructor
        · rintro ⟨h1, h2⟩
          by_cases h3 : LtB y x.hi
          · exact .inl ⟨h1, h3⟩
          · exact .inr ⟨hs.trans (LtB.not.1 h3), h2⟩
        · rintro (h | h)
          · exact ⟨h.1, h.2.trans hlt⟩
          · exact ⟨hle.trans h.1, h.2⟩
      · rw [if_neg hlt]
        simp only [hxo, Bool.false_eq_true, false_or]
        constructor
        · exact fun h => .inl h
        · rintro (h | h)
          · exact h
          · exact ⟨hle.trans h.1, h.2.trans_le (LtB.not.1 hlt)⟩
theorem canon_uni {os : List Rg} {x f : Rg} (h : Canon (os ++ [x])) (hf : Okf f) (hle : LeB x.lo f.lo) : Canon (os ++ [uniB x f]) := by
  have hx := h.1 x (List.mem_append_right _ (List.mem_singleton.2 rfl))
  refine ⟨fun r hr => ?_, ?_⟩
  · rcases List.mem_append.1 hr with hr | hr
    · exact h.1 r (List.mem_append_left _ hr)
    · rw [List.mem_singleton.1 hr]; exact uniB_ok hx hf hle
  · obtain ⟨h1, _, h3⟩ := List.pairwise_append.1 h.2
    refine List.pairwise_append.2 ⟨h1, List.pairwise_singleton _ _, fun a ha b hb => ?_⟩
    rw [List.mem_singleton.1 hb, uniB_lo]
    exact h3 a ha x (List.mem_singleton.2 rfl)
theorem canon_one {f : Rg} (hf : Okf f) : Canon [f] := ⟨fun r hr => by rw [List.mem_singleton.1 hr]; exact hf, List.pairwise_singleton _ _⟩
theorem canon_nil : Canon [] := ⟨fun r hr => (by cases hr), List.Pairwise.nil⟩
theorem any_form (r : Rg) {x : List UInt8} (hx : isKeyB x = true) : hasB r x = anyB (formB r).toList x := by
  rw [has_form r x hx]
  cases h : formB r with
  | none => rfl
  | some f => simp [anyB, hasB, hx]
theorem any_forms : ∀ (rs : List Rg) {x : List UInt8}, isKeyB x = true → anyB rs x = anyB (rs.filterMap formB) x
  | [], x, _ => rfl
  | r :: rs, x, hx => by
    rw [anyB_cons, any_forms rs hx, any_form r hx, List.filterMap_cons]
    cases h : formB r with
    | none => simp [anyB]
    | some f => simp [anyB]
theorem anyB_perm {a b : List Rg} (h : a.Perm b) (x : List UInt8) : anyB a x = anyB b x := by
  rw [Bool.eq_iff_iff, anyB_iff, anyB_iff]
  exact ⟨fun ⟨r, h1, h2⟩ => ⟨r, h.mem_iff.1 h1, h2⟩, fun ⟨r, h1, h2⟩ => ⟨r, h.mem_iff.2 h1, h2⟩⟩
/-- What Cover answers. -/
structure CovOf (rs cs : List Rg) : Prop where
  canon : Canon cs
  any : ∀ x, isKeyB x = true → anyB cs x = anyB rs x
theorem CovOf.uniq {rs a b : List Rg} (h : CovOf rs a) (k : CovOf rs b) : a = b := canon_uniq h.canon k.canon fun x hx => (h.any x hx).trans (k.any x hx).symm
theorem CovOf.same {rs rs' a b : List Rg} (h : CovOf rs a) (k : CovOf rs' b) (he : ∀ x, isKeyB x = true → anyB rs x = anyB rs' x) : a = b :=
  canon_uniq h.canon k.canon fun x hx => (h.any x hx).trans ((he x hx).trans (k.any x hx).symm)
theorem CovOf.self {cs : List Rg} (h : Canon cs) : CovOf cs cs := ⟨h, fun _ _ => rfl⟩
theorem CovOf.one (r : Rg) : CovOf [r] (formB r).toList := by
  refine ⟨?_, fun x hx => ?_⟩
  · cases h : formB r with
    | none => exact canon_nil
    | some f => exact canon_one (formB_ok h)
  · rw [← any_form r hx, anyB_cons]
    simp [anyB]
/-- How many of them hold a key: one or none. -/
theorem canon_count : ∀ {cs : List Rg}, Canon cs → ∀ x : List UInt8, cs.countP (fun r => hasB r x) = if anyB cs x then 1 else 0
  | [], _, x => rfl
  | r :: cs, h, x => by
    have ih := canon_count h.tail x
    rw [List.countP_cons, ih, anyB_cons]
    cases hh : hasB r x with
    | true => rw [any_tail h hh]; rfl
    | false => simp
/-- The state of the second loop: what is out, of the forms that were seen. -/
structure Merged (seen os : List Rg) : Prop where
  canon : Canon os
  any : ∀ x, isKeyB x = true → anyB os x = anyB seen x
  le : ∀ r ∈ os, ∃ s ∈ seen, r.lo = s.lo
theorem Merged.nil : Merged [] [] := ⟨canon_nil, fun _ _ => rfl, fun r h => by cases h⟩
theorem Merged.first {f : Rg} (hf : Okf f) : Merged [f] [f] := ⟨canon_one hf, fun _ _ => rfl, fun r h => ⟨r, h, rfl⟩⟩
theorem Merged.add {seen os : List Rg} {x f : Rg} (h : Merged seen (os ++ [x])) (hf : Okf f) (hle : ∀ s ∈ seen, LeB s.lo f.lo) (hs : sepB x f = true) : Merged (seen ++ [f]) (os ++ [x] ++ [f]) := by
  obtain ⟨s, hs1, hs2⟩ := h.le x (List.mem_append_right _ (List.mem_singleton.2 rfl))
  refine ⟨canon_snoc h.canon hf hs (by rw [hs2]; exact hle s hs1), fun y hy => ?_, fun r hr => ?_⟩
  · rw [anyB_app, h.any y hy, ← anyB_app]
  · rcases List.mem_append.1 hr with hr | hr
    · obtain ⟨t, h1, h2⟩ := h.le r hr
      exact ⟨t, List.mem_append_left _ h1, h2⟩
    · exact ⟨f, List.mem_append_right _ (List.mem_singleton.2 rfl), by rw [List.mem_singleton.1 hr]⟩
theorem Merged.uni {seen os : List Rg} {x f : Rg} (h : Merged seen (os ++ [x])) (hf : Okf f) (hle : ∀ s ∈ seen, LeB s.lo f.lo) (hs : sepB x f = false) : Merged (seen ++ [f]) (os ++ [uniB x f]) := by
  have hxm : x ∈ os ++ [x] := List.mem_append_right _ (List.mem_singleton.2 rfl)
  obtain ⟨s, hs1, hs2⟩ := h.le x hxm
  have hxf : LeB x.lo f.lo := by rw [hs2]; exact hle s hs1
  refine ⟨canon_uni h.canon hf hxf, fun y hy => ?_, fun r hr => ?_⟩
  · rw [anyB_app, anyB_app seen, ← h.any y hy, anyB_app, show anyB [uniB x f] y = hasB (uniB x f) y by simp [anyB], uniB_has (h.canon.1 x hxm) hf hxf hs hy]
    simp [anyB, Bool.or_assoc]
  · rcases List.mem_append.1 hr with hr | hr
    · obtain ⟨t, h1, h2⟩ := h.le r (List.mem_append_left _ hr)
      exact ⟨t, List.mem_append_left _ h1, h2⟩
    · rw [List.mem_singleton.1 hr, uniB_lo]
      exact ⟨s, List.mem_append_left _ hs1, hs2⟩
theorem Merged.cov {rs seen os : List Rg} (h : Merged seen os) (hp : seen.Perm (rs.filterMap formB)) : CovOf rs os :=
  ⟨h.canon, fun x hx => (h.any x hx).trans ((anyB_perm hp x).trans (any_forms rs hx).symm)⟩
end Go.Proofs.Ytijlaknfagpglaa
