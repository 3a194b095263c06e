/- Go's stable sort (insertion sort by blocks, SymMerge, rotation by exchanges): plain laws over arrays. No program in sight. -/
import Derived.Sort.LotA
namespace Go.Proofs.Ytijlaknfagpglaa
open Go.Sort
set_option linter.unusedVariables false
section
variable {α : Type} [Inhabited α] {d e d' : Array α}
/-- n places from x on have been exchanged with those from y on. -/
structure SwOf (x y n : Nat) (d d' : Array α) : Prop where
  size : d'.size = d.size
  get : ∀ k : Nat, d'[k]! = if x ≤ k ∧ k < x + n then d[y + (k - x)]! else if y ≤ k ∧ k < y + n then d[x + (k - y)]! else d[k]!
/-- What lay from m on to b lies in front of what lay from a on to m. -/
structure RotOf (a m b : Nat) (d d' : Array α) : Prop where
  size : d'.size = d.size
  get : ∀ k : Nat, d'[k]! = if a ≤ k ∧ k < a + (b - m) then d[m + (k - a)]! else if a + (b - m) ≤ k ∧ k < b then d[k - (b - m)]! else d[k]!
theorem at_eq (d : Array α) {x y : Nat} (h : x = y) : d[x]! = d[y]! := by rw [h]
theorem SwOf.zero (x y : Nat) (d : Array α) : SwOf x y 0 d d := ⟨rfl, fun k => by rw [if_neg (by omega), if_neg (by omega)]⟩
theorem SwOf.step {x y n i : Nat} (h : SwOf x y i d d') (hxy : x + n ≤ y) (hi : i < n) (hb : y + n ≤ d.size) : SwOf x y (i + 1) d (swp d' (x + i) (y + i)) := by
  refine ⟨by rw [size_swp, h.size], fun k => ?_⟩
  rw [swp_get d' (by rw [h.size]; omega) (by rw [h.size]; omega) k]
  simp only [h.get]
  (repeat' split) <;> first | exact at_eq d (by omega) | (exfalso; omega) | (exact absurd trivial (by assumption))
theorem RotOf.left {m i j : Nat} (h1 : SwOf (m - i) m j d e) (h2 : RotOf (m - i + j) m (m + j) e d') (him : i ≤ m) (hij : j < i) : RotOf (m - i) m (m + j) d d' := by
  refine ⟨by rw [h2.size, h1.size], fun k => ?_⟩
  rw [h2.get k]
  simp only [h1.get]
  (repeat' split) <;> first | exact at_eq d (by omega) | (exfalso; omega) | (exact absurd trivial (by assumption))
theorem RotOf.right {m i j : Nat} (h1 : SwOf (m - i) (m + j - i) i d e) (h2 : RotOf (m - i) m (m + (j - i)) e d') (him : i ≤ m) (hij : i < j) : RotOf (m - i) m (m + j) d d' := by
  refine ⟨by rw [h2.size, h1.size], fun k => ?_⟩
  rw [h2.get k]
  simp only [h1.get]
  (repeat' split) <;> first | exact at_eq d (by omega) | (exfalso; omega) | (exact absurd trivial (by assumption))
theorem RotOf.same {m i : Nat} (h1 : SwOf (m - i) m i d d') (him : i ≤ m) : RotOf (m - i) m (m + i) d d' := by
  refine ⟨h1.size, fun k => ?_⟩
  rw [h1.get k]
  (repeat' split) <;> first | exact at_eq d (by omega) | (exfalso; omega) | (exact absurd trivial (by assumption))
/-- The element a has been moved up to t. -/
structure MvUp (a t : Nat) (d e : Array α) : Prop where
  size : e.size = d.size
  get : ∀ k : Nat, e[k]! = if a ≤ k ∧ k < t then d[k + 1]! else if k = t then d[a]! else d[k]!
theorem MvUp.start (a : Nat) (d : Array α) : MvUp a a d d := ⟨rfl, fun k => by
  rw [if_neg (by omega)]
  by_cases h : k = a
  · rw [if_pos h, h]
  · rw [if_neg h]⟩
theorem MvUp.step {a t : Nat} (h : MvUp a t d e) (hat : a ≤ t) (ht : t + 1 < d.size) : MvUp a (t + 1) d (swp e t (t + 1)) := by
  refine ⟨by rw [size_swp, h.size], fun k => ?_⟩
  rw [swp_get e (by rw [h.size]; omega) (by rw [h.size]; omega) k]
  simp only [h.get]
  (repeat' split) <;> first | exact at_eq d (by omega) | (exfalso; omega) | (exact absurd trivial (by assumption))
/-- The element m has been moved down to t. -/
structure MvDn (t m : Nat) (d e : Array α) : Prop where
  size : e.size = d.size
  get : ∀ k : Nat, e[k]! = if t < k ∧ k ≤ m then d[k - 1]! else if k = t then d[m]! else d[k]!
theorem MvDn.start (m : Nat) (d : Array α) : MvDn m m d d := ⟨rfl, fun k => by
  rw [if_neg (by omega)]
  by_cases h : k = m
  · rw [if_pos h, h]
  · rw [if_neg h]⟩
theorem MvDn.step {t m : Nat} (h : MvDn (t + 1) m d e) (hat : t + 1 ≤ m) (ht : m < d.size) : MvDn t m d (swp e (t + 1) t) := by
  refine ⟨by rw [size_swp, h.size], fun k => ?_⟩
  rw [swp_get e (by rw [h.size]; omega) (by rw [h.size]; omega) k]
  simp only [h.get]
  (repeat' split) <;> first | exact at_eq d (by omega) | (exfalso; omega) | (exact absurd trivial (by assumption))
end
section
variable {α : Type} [Inhabited α] {lt : α → α → Bool} {d e d' : Array α} {a m b : Nat}
/-- Where a search for d[a] in [m, b) stands: what lies before i is less, what lies from j on is not. -/
structure FindLo (lt : α → α → Bool) (a m b i j : Nat) (d : Array α) : Prop where
  lo : ∀ k, m ≤ k → k < i → lt d[k]! d[a]! = true
  hi : ∀ k, j ≤ k → k < b → lt d[k]! d[a]! = false
theorem FindLo.start (lt : α → α → Bool) (a m b : Nat) (d : Array α) : FindLo lt a m b m b d := ⟨fun k h1 h2 => by omega, fun k h1 h2 => by omega⟩
theorem not_true {b : Bool} (h : ¬ b = false) : b = true := by cases b <;> simp_all
theorem sorted_le (hS : SWO lt) {i j : Nat} (h : SortedIn lt a b d) (h1 : a ≤ i) (h2 : i ≤ j) (h3 : j < b) : lt d[j]! d[i]! = false := by
  rcases Nat.lt_or_ge i j with hlt | hge
  · exact h i j h1 hlt h3
  · have : i = j := by omega
    rw [this]; exact hS.irrefl _
theorem FindLo.up (hS : SWO lt) {i j h : Nat} (f : FindLo lt a m b i j d) (hs : SortedIn lt m b d) (hh : h < b) (ht : lt d[h]! d[a]! = true) : FindLo lt a m b (h + 1) j d :=
  ⟨fun k h1 h2 => not_true fun h0 => (by
    have := hS.ntrans _ _ _ (sorted_le hS hs h1 (show k ≤ h by omega) hh) h0
    rw [ht] at this; cases this), f.hi⟩
theorem FindLo.down (hS : SWO lt) {i j h : Nat} (f : FindLo lt a m b i j d) (hs : SortedIn lt m b d) (hh : m ≤ h) (ht : lt d[h]! d[a]! = false) : FindLo lt a m b i h d :=
  ⟨f.lo, fun k h1 h2 => hS.ntrans _ _ _ (sorted_le hS hs hh h1 h2) ht⟩
theorem merge_lo (hS : SWO lt) {i : Nat} (f : FindLo lt a (a + 1) b i i d) (hs : SortedIn lt (a + 1) b d) (h1 : a + 1 ≤ i) (h2 : i ≤ b) (hm : MvUp a (i - 1) d e) : SortedIn lt a b e := by
  intro p q hp hpq hq
  rw [hm.get p, hm.get q]
  by_cases c1 : a ≤ p ∧ p < i - 1
  · rw [if_pos c1]
    by_cases c2 : a ≤ q ∧ q < i - 1
    · rw [if_pos c2]; exact hs (p + 1) (q + 1) (by omega) (by omega) (by omega)
    · rw [if_neg c2]
      by_cases c3 : q = i - 1
      · rw [if_pos c3]; exact hS.asymmA (f.lo (p + 1) (by omega) (by omega))
      · rw [if_neg c3]; exact hs (p + 1) q (by omega) (by omega) hq
  · rw [if_neg c1, if_neg (show ¬ (a ≤ q ∧ q < i - 1) by omega)]
    by_cases c2 : p = i - 1
    · rw [if_pos c2, if_neg (by omega)]; exact f.hi q (by omega) hq
    · rw [if_neg c2, if_neg (by omega)]; exact hs p q (by omega) hpq hq
/-- Where a search for d[m] in [a, m) stands: than what lies before i it is not less, than what lies from j on it is. -/
structure FindHi (lt : α → α → Bool) (a m i j : Nat) (d : Array α) : Prop where
  lo : ∀ k, a ≤ k → k < i → lt d[m]! d[k]! = false
  hi : ∀ k, j ≤ k → k < m → lt d[m]! d[k]! = true
theorem FindHi.start (lt : α → α → Bool) (a m : Nat) (d : Array α) : FindHi lt a m a m d := ⟨fun k h1 h2 => by omega, fun k h1 h2 => by omega⟩
theorem FindHi.up (hS : SWO lt) {i j h : Nat} (f : FindHi lt a m i j d) (hs : SortedIn lt a m d) (hh : h < m) (ht : lt d[m]! d[h]! = false) : FindHi lt a m (h + 1) j d :=
  ⟨fun k h1 h2 => hS.ntrans _ _ _ ht (sorted_le hS hs h1 (show k ≤ h by omega) hh), f.hi⟩
theorem FindHi.down (hS : SWO lt) {i j h : Nat} (f : FindHi lt a m i j d) (hs : SortedIn lt a m d) (hh : a ≤ h) (ht : lt d[m]! d[h]! = true) : FindHi lt a m i h d :=
  ⟨f.lo, fun k h1 h2 => not_true fun h0 => by
    have := hS.ntrans _ _ _ h0 (sorted_le hS hs hh h1 h2)
    rw [ht] at this; cases this⟩
theorem merge_hi (hS : SWO lt) {i : Nat} (f : FindHi lt a m i i d) (hs : SortedIn lt a m d) (h1 : a ≤ i) (h2 : i ≤ m) (hm : MvDn i m d e) : SortedIn lt a (m + 1) e := by
  intro p q hp hpq hq
  rw [hm.get p, hm.get q]
  by_cases c1 : i < q ∧ q ≤ m
  · rw [if_pos c1]
    by_cases c2 : i < p ∧ p ≤ m
    · rw [if_pos c2]; exact hs (p - 1) (q - 1) (by omega) (by omega) (by omega)
    · rw [if_neg c2]
      by_cases c3 : p = i
      · rw [if_pos c3]; exact hS.asymmA (f.hi (q - 1) (by omega) (by omega))
      · rw [if_neg c3]; exact hs p (q - 1) (by omega) (by omega) (by omega)
  · rw [if_neg c1, if_neg (show ¬ (i < p ∧ p ≤ m) by omega)]
    by_cases c2 : q = i
    · rw [if_pos c2, if_neg (by omega)]; exact f.lo p (by omega) (by omega)
    · rw [if_neg c2, if_neg (by omega)]; exact hs p q hp hpq (by omega)
/-- Where the search for the cut stands. -/
structure FindCut (lt : α → α → Bool) (p lo r0 s r : Nat) (d : Array α) : Prop where
  lo : ∀ c, lo ≤ c → c < s → lt d[p - c]! d[c]! = false
  hi : ∀ c, r ≤ c → c < r0 → lt d[p - c]! d[c]! = true
theorem FindCut.start (lt : α → α → Bool) (p lo r0 : Nat) (d : Array α) : FindCut lt p lo r0 lo r0 d := ⟨fun k h1 h2 => by omega, fun k h1 h2 => by omega⟩
theorem cut_mono (hS : SWO lt) {p c c' : Nat} (h1 : SortedIn lt a m d) (h2 : SortedIn lt m b d) (hc : a ≤ c') (hcc : c' ≤ c) (hcm : c < m) (hp : m ≤ p - c) (hp2 : p - c' < b) (hf : lt d[p - c]! d[c]! = false) : lt d[p - c']! d[c']! = false :=
  hS.ntrans _ _ _ (hS.ntrans _ _ _ (sorted_le hS h2 hp (by omega) hp2) hf) (sorted_le hS h1 hc hcc hcm)
theorem FindCut.up (hS : SWO lt) {p lo r0 s r c : Nat} (f : FindCut lt p lo r0 s r d) (h1 : SortedIn lt a m d) (h2 : SortedIn lt m b d) (hlo : a ≤ lo) (hc : c < r0) (hr : r0 ≤ m) (hpm : m + r0 ≤ p + 1) (hpb : p < b + lo) (hf : lt d[p - c]! d[c]! = false) : FindCut lt p lo r0 (c + 1) r d :=
  ⟨fun k k1 k2 => cut_mono hS h1 h2 (by omega) (show k ≤ c by omega) (by omega) (by omega) (by omega) hf, f.hi⟩
theorem FindCut.down (hS : SWO lt) {p lo r0 s r c : Nat} (f : FindCut lt p lo r0 s r d) (h1 : SortedIn lt a m d) (h2 : SortedIn lt m b d) (hlo : a ≤ lo) (hc : lo ≤ c) (hr : r0 ≤ m) (hpm : m + r0 ≤ p + 1) (hpb : p < b + lo) (hf : lt d[p - c]! d[c]! = true) : FindCut lt p lo r0 s c d :=
  ⟨f.lo, fun k k1 k2 => not_true fun h0 => by
    have := cut_mono hS h1 h2 (show a ≤ c by omega) k1 (show k < m by omega) (by omega) (by omega) h0
    rw [hf] at this; cases this⟩
/-- Behind the rotation: four rising parts, and no element of the right half is less than one of the left. -/
structure Cut4 (lt : α → α → Bool) (a s mid en b : Nat) (d : Array α) : Prop where
  s1 : SortedIn lt a s d
  s2 : SortedIn lt s mid d
  s3 : SortedIn lt mid en d
  s4 : SortedIn lt en b d
  cross : ∀ i j, a ≤ i → i < mid → mid ≤ j → j < b → lt d[j]! d[i]! = false
theorem cut4 (hS : SWO lt) {mid s en lo r0 : Nat} (h1 : SortedIn lt a m d) (h2 : SortedIn lt m b d) (hr : RotOf s m en d e) (f : FindCut lt (mid + m - 1) lo r0 s s d) (hse : s + en = mid + m) (has : a ≤ s) (hsm : s ≤ m) (hsmid : s ≤ mid) (hme : m ≤ en) (heb : en ≤ b) (hmid : mid ≤ en)
    (hl1 : s = lo → s = a ∨ en = b) (hl2 : lo ≤ s) (hl3 : s = r0 → s = m ∨ en = m) (hl4 : s ≤ r0) : Cut4 lt a s mid en b e := by
  have g1 : ∀ k, k < s → e[k]! = d[k]! := fun k hk => by rw [hr.get, if_neg (by omega), if_neg (by omega)]
  have g2 : ∀ k, s ≤ k → k < mid → e[k]! = d[m + (k - s)]! := fun k hk hk2 => by rw [hr.get, if_pos (by omega)]
  have g3 : ∀ k, mid ≤ k → k < en → e[k]! = d[k - (en - m)]! := fun k hk hk2 => by rw [hr.get, if_neg (by omega), if_pos (by omega)]
  have g4 : ∀ k, en ≤ k → e[k]! = d[k]! := fun k hk => by rw [hr.get, if_neg (by omega), if_neg (by omega)]
  refine ⟨fun i j hi hij hj => ?_, fun i j hi hij hj => ?_, fun i j hi hij hj => ?_, fun i j hi hij hj => ?_, fun i j hi hi2 hj hj2 => ?_⟩
  · rw [g1 i (by omega), g1 j hj]; exact h1 i j hi hij (by omega)
  · rw [g2 i hi (by omega), g2 j (by omega) hj]; exact h2 _ _ (by omega) (by omega) (by omega)
  · rw [g3 i hi (by omega), g3 j (by omega) hj]; exact h1 _ _ (by omega) (by omega) (by omega)
  · rw [g4 i hi, g4 j (by omega)]; exact h2 _ _ (by omega) hij hj
  · by_cases ci : i < s
    · rw [g1 i ci]
      by_cases cj : j < en
      · rw [g3 j hj cj]; exact h1 _ _ hi (by omega) (by omega)
      · rw [g4 j (by omega)]
        have hlo : lo < s := by
          rcases Nat.lt_or_ge lo s with h | h
          · exact h
          · rcases hl1 (by omega) with h' | h' <;> omega
        have k1 := f.lo (s - 1) (by omega) (by omega)
        rw [at_eq d (show mid + m - 1 - (s - 1) = en by omega)] at k1
        exact hS.ntrans _ _ _ (hS.ntrans _ _ _ (sorted_le hS h2 hme (show en ≤ j by omega) hj2) k1) (sorted_le hS h1 hi (show i ≤ s - 1 by omega) (by omega))
    · rw [g2 i (by omega) hi2]
      by_cases cj : j < en
      · rw [g3 j hj cj]
        have hr0 : s < r0 := by
          rcases Nat.lt_or_ge s r0 with h | h
          · exact h
          · rcases hl3 (by omega) with h' | h' <;> omega
        have k1 := f.hi s (Nat.le_refl _) hr0
        rw [at_eq d (show mid + m - 1 - s = en - 1 by omega)] at k1
        refine hS.ntrans _ _ _ (hS.ntrans _ _ _ (sorted_le hS h1 has (show s ≤ j - (en - m) by omega) (by omega)) (hS.asymmA k1)) (sorted_le hS h2 (by omega) (show m + (i - s) ≤ en - 1 by omega) (by omega))
      · rw [g4 j (by omega)]; exact h2 _ _ (by omega) (by omega) hj2
theorem sorted_glue2 {mid : Nat} (hL : SortedIn lt a mid d) (hR : SortedIn lt mid b d) (hc : ∀ i j, a ≤ i → i < mid → mid ≤ j → j < b → lt d[j]! d[i]! = false) : SortedIn lt a b d := by
  intro i j hi hij hj
  by_cases c1 : j < mid
  · exact hL i j hi hij c1
  · by_cases c2 : i < mid
    · exact hc i j hi c2 (by omega) hj
    · exact hR i j (by omega) hij hj
theorem cross_perm {mid : Nat} (hb : b ≤ d.size) (hm : mid ≤ b) (hc : ∀ i j, a ≤ i → i < mid → mid ≤ j → j < b → lt d[j]! d[i]! = false) (hp : PermIn a mid d e) (hq : PermIn mid b e d') : ∀ i j, a ≤ i → i < mid → mid ≤ j → j < b → lt d'[j]! d'[i]! = false := by
  intro i j hi hi2 hj hj2
  have k1 : ∀ j, mid ≤ j → j < b → ∀ i, a ≤ i → i < mid → lt e[j]! e[i]! = false := fun j hj hj2 => by
    rw [hp.2.1 j (.inr hj)]
    exact permIn_all d e a mid (fun x => lt d[j]! x = false) (by omega) hp (fun i hi hi2 => hc i j hi hi2 hj hj2)
  rw [hq.2.1 i (.inl hi2)]
  exact permIn_all e d' mid b (fun x => lt x e[i]! = false) (by rw [hp.1]; exact hb) hq (fun j hj hj2 => k1 j hj hj2 i hi hi2) j hj hj2
end
end Go.Proofs.Ytijlaknfagpglaa
