/- Package runs: how many numbers runs have. Plain laws. No program. -/
import Derived.Test.YtffapgemacbdjaaRrem
namespace Go.Proofs.Ytffapgemacbdjaa
set_option linter.unusedVariables false
/-- How many of the n numbers from m on. -/
def numC (f : Int → Bool) (m : Int) : Nat → Nat
  | 0 => 0
  | n + 1 => numC f m n + (if f (m + n) then 1 else 0)
theorem numC_ext {f g : Int → Bool} {m : Int} : ∀ {n : Nat}, (∀ i : Nat, i < n → f (m + i) = g (m + i)) → numC f m n = numC g m n
  | 0, _ => rfl
  | n + 1, h => by
    simp only [numC]
    rw [numC_ext (n := n) (fun i hi => h i (by omega)), h n (by omega)]
theorem numC_or {f g : Int → Bool} {m : Int} (h : ∀ x, f x = true → g x = false) : ∀ n, numC (fun x => f x || g x) m n = numC f m n + numC g m n
  | 0 => rfl
  | n + 1 => by
    have h0 := h (m + n)
    simp only [numC, numC_or h n]
    by_cases hf : f (m + n) = true
    · have hg := h0 hf
      simp [hf, hg]; omega
    · by_cases hg : g (m + n) = true
      · simp [hf, hg]; omega
      · simp [hf, hg]
theorem numC_none {f : Int → Bool} {m : Int} : ∀ {n : Nat}, (∀ i : Nat, i < n → f (m + i) = false) → numC f m n = 0
  | 0, _ => rfl
  | n + 1, h => by
    simp only [numC]
    rw [numC_none (n := n) (fun i hi => h i (by omega)), h n (by omega)]
    rfl
theorem numC_iv {a b m : Int} (h1 : m ≤ a) (h2 : a ≤ b + 1) : ∀ n : Nat, (numC (fun x => decide (a ≤ x ∧ x ≤ b)) m n : Int) = max 0 (min (b + 1) (m + n) - a)
  | 0 => by simp [numC]; omega
  | n + 1 => by
    have ih := numC_iv h1 h2 n
    simp only [numC, Int.natCast_add, ih]
    by_cases h : a ≤ m + n ∧ m + n ≤ b
    · rw [if_pos (decide_eq_true h)]; simp; omega
    · rw [if_neg (by simpa using h)]; simp; omega
/-- How many numbers the runs have, run by run. -/
def cnt : List Rn → Int
  | [] => 0
  | r :: L => r.hi - r.lo + 1 + cnt L
theorem cnt_nonneg : ∀ {L : List Rn}, (∀ r ∈ L, r.lo ≤ r.hi) → 0 ≤ cnt L
  | [], _ => Int.le_refl _
  | r :: L, h => by
    have := h r List.mem_cons_self
    have := cnt_nonneg (L := L) (fun s hs => h s (List.mem_cons_of_mem _ hs))
    simp only [cnt]; omega
theorem hasB_cons (r : Rn) (L : List Rn) (x : Int) : hasB (r :: L) x = (decide (r.lo ≤ x ∧ x ≤ r.hi) || hasB L x) := rfl
theorem numC_cnt {m : Int} {n : Nat} : ∀ {L : List Rn}, WfR L → (∀ r ∈ L, m ≤ r.lo ∧ r.hi < m + n) → (numC (hasB L) m n : Int) = cnt L
  | [], _, _ => by rw [numC_none (fun _ _ => rfl)]; rfl
  | r :: L, hw, hb => by
    have e : hasB (r :: L) = fun x => decide (r.lo ≤ x ∧ x ≤ r.hi) || hasB L x := funext (hasB_cons r L)
    rw [e, numC_or (fun x h => ?_)]
    · have ih := numC_cnt hw.2.2 (fun s hs => hb s (List.mem_cons_of_mem _ hs))
      obtain ⟨h1, h2⟩ := hb r List.mem_cons_self
      have hi := numC_iv h1 (show r.lo ≤ r.hi + 1 by have := hw.1; omega) n
      have := hw.1
      rw [Int.natCast_add, ih, hi]
      simp only [cnt]
      omega
    · have h := of_decide_eq_true h
      cases hc : hasB L x with
      | false => rfl
      | true =>
        have := hw.tail_gt ((hasB_iff L x).1 hc)
        omega
/-! ### What a set has of a run and has not, as runs -/
theorem within_cons (x : Rn) (L : List Rn) (r : Rn) : withinL (x :: L) r = (if max x.lo r.lo ≤ min x.hi r.hi then [⟨max x.lo r.lo, min x.hi r.hi⟩] else []) ++ withinL L r := by
  unfold withinL
  rw [List.map_cons, List.filter_cons]
  by_cases h : max x.lo r.lo ≤ min x.hi r.hi
  · rw [if_pos h, if_pos (show decide ((clipR r x).lo ≤ (clipR r x).hi) = true from decide_eq_true h)]
    rfl
  · rw [if_neg h, if_neg (show ¬ decide ((clipR r x).lo ≤ (clipR r x).hi) = true from fun h' => h (of_decide_eq_true h'))]
    rfl
theorem within_wf : ∀ {L : List Rn} (r : Rn), WfR L → WfR (withinL L r)
  | [], _, _ => trivial
  | x :: L, r, hw => by
    rw [within_cons]
    refine wf_append ?_ (within_wf r hw.2.2) ?_
    · split
      · exact ⟨by simpa using ‹_›, fun _ h => (by cases h), trivial⟩
      · trivial
    · intro a ha b hb
      split at ha
      · rcases List.mem_cons.1 ha with rfl | ha
        · obtain ⟨m1, m2, m3, y, hy, rfl⟩ := within_mem hb
          have := hw.2.1 y hy
          simp only [clipR] at *
          omega
        · cases ha
      · cases ha
theorem within_num : ∀ (L : List Rn) (r : Rn) (y : Int), memR (withinL L r) y ↔ memR L y ∧ r.lo ≤ y ∧ y ≤ r.hi
  | [], r, y => ⟨fun h => absurd h mem_nil, fun h => absurd h.1 mem_nil⟩
  | x :: L, r, y => by
    rw [within_cons, mem_append', within_num L r y, show x :: L = [x] ++ L from rfl, mem_append', mem_one]
    have e : memR (if max x.lo r.lo ≤ min x.hi r.hi then [⟨max x.lo r.lo, min x.hi r.hi⟩] else []) y ↔ (x.lo ≤ y ∧ y ≤ x.hi) ∧ r.lo ≤ y ∧ y ≤ r.hi := by
      split
      · rw [mem_one]; simp only; omega
      · constructor
        · exact fun h => absurd h mem_nil
        · intro h; omega
    rw [e]
    constructor
    · rintro (⟨a, b⟩ | ⟨a, b⟩)
      · exact ⟨.inl a, b⟩
      · exact ⟨.inr a, b⟩
    · rintro ⟨a | a, b⟩
      · exact .inl ⟨a, b⟩
      · exact .inr ⟨a, b⟩
theorem gaps_wf : ∀ (ws : List Rn) (c hi : Int), WfR ws → (∀ x ∈ ws, c ≤ x.lo ∧ x.hi ≤ hi) → c ≤ hi → WfR (gapsL ws ⟨c, hi⟩) ∧ (∀ g ∈ gapsL ws ⟨c, hi⟩, c ≤ g.lo ∧ g.hi ≤ hi) ∧ ∀ y, memR (gapsL ws ⟨c, hi⟩) y ↔ (c ≤ y ∧ y ≤ hi) ∧ ¬ memR ws y
  | [], c, hi, _, _, h => by
    refine ⟨⟨h, fun _ h => (by cases h), trivial⟩, fun g hg => ?_, fun y => ?_⟩
    · rcases List.mem_cons.1 hg with rfl | hg
      · exact ⟨Int.le_refl _, Int.le_refl _⟩
      · cases hg
    · show memR [_] y ↔ _
      rw [mem_one]
      exact ⟨fun h => ⟨h, mem_nil⟩, fun h => h.1⟩
  | x :: ws, c, hi, hw, hb, h => by
    obtain ⟨b1, b2⟩ := hb x List.mem_cons_self
    have hx := hw.1
    rw [gapsL_cons]
    have hmx : ∀ y, memR (x :: ws) y ↔ (x.lo ≤ y ∧ y ≤ x.hi) ∨ memR ws y := fun y => by
      rw [show x :: ws = [x] ++ ws from rfl, mem_append', mem_one]
    have hm1 : ∀ y, memR (if c < x.lo then [⟨c, x.lo - 1⟩] else []) y ↔ c ≤ y ∧ y < x.lo := fun y => by
      split
      · rw [mem_one]; simp only; omega
      · constructor
        · exact fun h => absurd h mem_nil
        · intro h; omega
    have hw1 : WfR (if c < x.lo then [⟨c, x.lo - 1⟩] else []) := by
      split
      · exact ⟨by simp only; omega, fun _ h => (by cases h), trivial⟩
      · trivial
    have hi1 : ∀ g ∈ (if c < x.lo then [(⟨c, x.lo - 1⟩ : Rn)] else []), c ≤ g.lo ∧ g.hi + 1 ≤ x.lo := fun g hg => by
      split at hg
      · rcases List.mem_cons.1 hg with rfl | hg
        · simp only; omega
        · cases hg
      · cases hg
    by_cases he : x.hi = hi
    · have hws : ws = [] := by
        cases ws with
        | nil => rfl
        | cons z ws =>
          have h1 := hw.2.1 z List.mem_cons_self
          have h2 := (hb z (List.mem_cons_of_mem _ List.mem_cons_self)).2
          have h3 := hw.2.2.1
          omega
      subst hws
      rw [if_pos he, List.append_nil]
      refine ⟨hw1, fun g hg => ?_, fun y => ?_⟩
      · have := hi1 g hg; omega
      · rw [hm1, hmx]
        constructor
        · rintro h
          exact ⟨by omega, fun h' => h'.elim (fun h' => by omega) (fun h' => absurd h' mem_nil)⟩
        · rintro ⟨h1, h2⟩
          have : ¬ (x.lo ≤ y ∧ y ≤ x.hi) := fun h' => h2 (.inl h')
          omega
    · obtain ⟨i1, i2, i3⟩ := gaps_wf ws (x.hi + 1) hi hw.2.2 (fun z hz => by
        have := hw.2.1 z hz
        have := (hb z (List.mem_cons_of_mem _ hz)).2
        omega) (by omega)
      rw [if_neg he]
      refine ⟨wf_append hw1 i1 (fun a ha b hb => ?_), fun g hg => ?_, fun y => ?_⟩
      · have := (hi1 a ha).2
        have := (i2 b hb).1
        omega
      · rcases List.mem_append.1 hg with hg | hg
        · have := hi1 g hg; omega
        · have := i2 g hg; omega
      · rw [mem_append', hm1, i3, hmx]
        constructor
        · rintro (h | ⟨h, h'⟩)
          · refine ⟨by omega, fun h' => h'.elim (fun h' => by omega) (fun h' => ?_)⟩
            have := hw.tail_gt h'
            omega
          · exact ⟨by omega, fun h2 => h2.elim (fun h2 => by omega) h'⟩
        · rintro ⟨h1, h2⟩
          by_cases hy : y < x.lo
          · exact .inl ⟨h1.1, hy⟩
          · refine .inr ⟨?_, fun h' => h2 (.inr h')⟩
            have : ¬ (x.lo ≤ y ∧ y ≤ x.hi) := fun h' => h2 (.inl h')
            omega
/-- Counted run by run, as the program counts, while there is no end of the numbers in sight. -/
theorem withZ_cnt : ∀ (G : List Rn) (n : Int), (∀ r ∈ G, r.lo ≤ r.hi) → 0 ≤ n → n + cnt G < 9223372036854775807 → G.foldl withZ n = n + cnt G
  | [], n, _, _, _ => by simp [cnt]
  | r :: G, n, h, h0, hn => by
    have h1 := h r List.mem_cons_self
    have h2 := cnt_nonneg (L := G) (fun s hs => h s (List.mem_cons_of_mem _ hs))
    simp only [cnt] at hn
    have e : withZ n r = n + (r.hi - r.lo) + 1 := by
      unfold withZ
      rw [if_neg (by omega)]
    rw [List.foldl_cons, e, withZ_cnt G _ (fun s hs => h s (List.mem_cons_of_mem _ hs)) (by omega) (by omega)]
    simp only [cnt]
    omega
/-- Numbers that lie within. -/
def InB (m : Int) (n : Nat) (L : List Rn) : Prop := ∀ r ∈ L, m ≤ r.lo ∧ r.hi < m + n
theorem cnt_eq {m : Int} {n : Nat} {L : List Rn} (hw : WfR L) (hb : InB m n L) : cnt L = (numC (hasB L) m n : Int) := (numC_cnt hw hb).symm
theorem numC_le (f : Int → Bool) (m : Int) : ∀ n, numC f m n ≤ n
  | 0 => Nat.le_refl _
  | n + 1 => by
    have := numC_le f m n
    simp only [numC]
    split <;> omega
theorem has_bool {L M : List Rn} {x : Int} (h : memR L x ↔ memR M x) : hasB L x = hasB M x := by
  rw [Bool.eq_iff_iff, hasB_iff, hasB_iff]; exact h
theorem wf_inb {m : Int} {n : Nat} {L : List Rn} (hw : WfR L) (h : ∀ y, memR L y → m ≤ y ∧ y < m + n) : InB m n L := fun r hr => by
  have := hw.each r hr
  exact ⟨(h r.lo ⟨r, hr, Int.le_refl _, this⟩).1, (h r.hi ⟨r, hr, this, Int.le_refl _⟩).2⟩
theorem inb_mem {m : Int} {n : Nat} {L : List Rn} (h : InB m n L) {y : Int} (hy : memR L y) : m ≤ y ∧ y < m + n := by
  obtain ⟨r, hr, h1, h2⟩ := hy
  have := h r hr
  omega
/-- How many Add says are new: as many as there are more. -/
theorem add_cnt {m : Int} {n : Nat} {L : List Rn} {lo hi : Int} (hw : WfR L) (hb : InB m n L) (h : lo ≤ hi) (h1 : m ≤ lo) (h2 : hi < m + n) (hn : n < 9223372036854775807) :
    (gapsL (withinL L ⟨lo, hi⟩) ⟨lo, hi⟩).foldl withZ 0 = cnt (addL L ⟨lo, hi⟩) - cnt L ∧ InB m n (addL L ⟨lo, hi⟩) := by
  obtain ⟨a1, a2⟩ := addL_ok hw ⟨lo, hi⟩
  have hbA : InB m n (addL L ⟨lo, hi⟩) := wf_inb a1 (fun y hy => by
    rcases (a2 y).1 hy with h' | h'
    · exact inb_mem hb h'
    · simp only at h'; omega)
  obtain ⟨g1, g2, g3⟩ := gaps_wf (withinL L ⟨lo, hi⟩) lo hi (within_wf _ hw) (fun x hx => by
    obtain ⟨m1, m2, m3, _⟩ := within_mem hx
    exact ⟨m2, m3⟩) h
  have hbG : InB m n (gapsL (withinL L ⟨lo, hi⟩) ⟨lo, hi⟩) := fun g hg => by have := g2 g hg; omega
  have e1 := cnt_eq g1 hbG
  have e2 := cnt_eq hw hb
  have e3 := cnt_eq a1 hbA
  have hs : numC (hasB (addL L ⟨lo, hi⟩)) m n = numC (hasB (gapsL (withinL L ⟨lo, hi⟩) ⟨lo, hi⟩)) m n + numC (hasB L) m n := by
    rw [← numC_or]
    · refine numC_ext (fun i hi' => ?_)
      rw [Bool.eq_iff_iff, Bool.or_eq_true, hasB_iff, hasB_iff, hasB_iff, a2, g3, within_num]
      constructor
      · intro h'
        by_cases hl : memR L (m + i)
        · exact .inr hl
        · rcases h' with h' | h'
          · exact absurd h' hl
          · exact .inl ⟨h', fun h3 => hl h3.1⟩
      · rintro (⟨h', _⟩ | h')
        · exact .inr h'
        · exact .inl h'
    · intro x hx
      rw [hasB_iff, g3] at hx
      cases hc : hasB L x with
      | false => rfl
      | true => exact absurd ((within_num L _ x).2 ⟨(hasB_iff L x).1 hc, hx.1⟩) hx.2
  have hle := numC_le (hasB (gapsL (withinL L ⟨lo, hi⟩) ⟨lo, hi⟩)) m n
  refine ⟨?_, hbA⟩
  rw [withZ_cnt _ 0 (fun r hr => g1.each r hr) (Int.le_refl _) (by omega)]
  omega
/-- How many Remove says were there: as many as there are less. -/
theorem rem_cnt {m : Int} {n : Nat} {L : List Rn} {lo hi : Int} (hw : WfR L) (hb : InB m n L) (h : lo ≤ hi) (hn : n < 9223372036854775807) :
    (withinL L ⟨lo, hi⟩).foldl withZ 0 = cnt L - cnt (remL L lo hi) ∧ InB m n (remL L lo hi) := by
  obtain ⟨a1, a2⟩ := remL_ok hw lo hi h
  have hbA : InB m n (remL L lo hi) := wf_inb a1 (fun y hy => inb_mem hb ((a2 y).1 hy).1)
  have g1 := within_wf ⟨lo, hi⟩ hw
  have hbG : InB m n (withinL L ⟨lo, hi⟩) := wf_inb g1 (fun y hy => inb_mem hb ((within_num _ _ _).1 hy).1)
  have e1 := cnt_eq g1 hbG
  have e2 := cnt_eq hw hb
  have e3 := cnt_eq a1 hbA
  have hs : numC (hasB L) m n = numC (hasB (withinL L ⟨lo, hi⟩)) m n + numC (hasB (remL L lo hi)) m n := by
    rw [← numC_or]
    · refine numC_ext (fun i hi' => ?_)
      rw [Bool.eq_iff_iff, Bool.or_eq_true, hasB_iff, hasB_iff, hasB_iff, a2, within_num]
      constructor
      · intro h'
        by_cases hl : lo ≤ m + i ∧ m + i ≤ hi
        · exact .inl ⟨h', hl⟩
        · exact .inr ⟨h', hl⟩
      · rintro (⟨h', _⟩ | ⟨h', _⟩) <;> exact h'
    · intro x hx
      rw [hasB_iff, within_num] at hx
      cases hc : hasB (remL L lo hi) x with
      | false => rfl
      | true => exact absurd hx.2 ((a2 x).1 ((hasB_iff _ x).1 hc)).2
  have hle := numC_le (hasB (withinL L ⟨lo, hi⟩)) m n
  refine ⟨?_, hbA⟩
  rw [withZ_cnt _ 0 (fun r hr => g1.each r hr) (Int.le_refl _) (by omega)]
  omega
theorem len_cnt {m : Int} {n : Nat} {L : List Rn} (hw : WfR L) (hb : InB m n L) (hn : n < 9223372036854775807) : L.foldl withZ 0 = cnt L := by
  have e2 := cnt_eq hw hb
  have hle := numC_le (hasB L) m n
  rw [withZ_cnt _ 0 (fun r hr => hw.each r hr) (Int.le_refl _) (by omega)]
  omega
end Go.Proofs.Ytffapgemacbdjaa
