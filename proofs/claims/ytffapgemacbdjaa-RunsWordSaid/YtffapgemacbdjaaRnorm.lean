/- Layer 5: plain laws of the document's Norm, First, Len. No program. -/
import Derived.Test.YtffapgemacbdjaaRcnt
import Derived.Test.YtffapgemacbdjaaRord
namespace Go.Proofs.Ytffapgemacbdjaa
set_option linter.unusedVariables false
/-- A list without its k-th part, the last one in its place. -/
def takeAt (l : List Rn) (k : Nat) : List Rn := (l.set k (l.getD (l.length - 1) ⟨0, 0⟩)).take (l.length - 1)
theorem takeAt_len (l : List Rn) (k : Nat) : (takeAt l k).length = l.length - 1 := by
  unfold takeAt; simp
theorem takeAt_in {l : List Rn} {k : Nat} {x : Rn} (h : l[k]? = some x) (r : Rn) : r ∈ l ↔ r ∈ takeAt l k ∨ r = x := by
  obtain ⟨hk, rfl⟩ := List.getElem?_eq_some_iff.1 h
  have hn : l.length - 1 < l.length := by omega
  have hlast : l.getD (l.length - 1) ⟨0, 0⟩ = l[l.length - 1] := by rw [List.getD_eq_getElem?_getD, List.getElem?_eq_getElem hn]; rfl
  unfold takeAt
  rw [hlast]
  constructor
  · intro hr
    obtain ⟨i, hi, rfl⟩ := List.mem_iff_getElem.1 hr
    by_cases h1 : i = k
    · subst h1; exact .inr rfl
    · by_cases h2 : i = l.length - 1
      · left
        rw [List.mem_iff_getElem]
        refine ⟨k, by simp; omega, ?_⟩
        simp only [List.getElem_take, List.getElem_set_self]
        simp only [h2]
      · left
        rw [List.mem_iff_getElem]
        refine ⟨i, by simp; omega, ?_⟩
        simp only [List.getElem_take]
        rw [List.getElem_set_ne (by omega)]
  · rintro (hr | rfl)
    · have := List.mem_of_mem_take hr
      rcases List.mem_or_eq_of_mem_set this with h | h
      · exact h
      · rw [h]; exact List.getElem_mem hn
    · exact List.getElem_mem hk
theorem takeAt_mem {l : List Rn} {k : Nat} {x : Rn} (h : l[k]? = some x) (y : Int) : memR l y ↔ memR (takeAt l k) y ∨ (x.lo ≤ y ∧ y ≤ x.hi) := by
  constructor
  · rintro ⟨r, hr, h'⟩
    rcases (takeAt_in h r).1 hr with hr | rfl
    · exact .inl ⟨r, hr, h'⟩
    · exact .inr h'
  · rintro (⟨r, hr, h'⟩ | h')
    · exact ⟨r, (takeAt_in h r).2 (.inl hr), h'⟩
    · exact ⟨x, (takeAt_in h x).2 (.inr rfl), h'⟩
/-- What Norm has made so far. -/
structure NormOk (l i o : List Rn) : Prop where
  wf : WfR o
  each : ∀ r ∈ i, r.lo ≤ r.hi
  low : ∀ a ∈ o, ∀ r ∈ i, a.lo ≤ r.lo
  mem : ∀ y, memR o y ∨ memR i y ↔ memR l y
theorem NormOk.start {l i : List Rn} (h : i = l.filter (fun r => decide (r.lo ≤ r.hi))) : NormOk l i [] := by
  subst h
  refine ⟨trivial, fun r hr => by simpa using (List.mem_filter.1 hr).2, fun a ha => (by cases ha), fun y => ⟨?_, ?_⟩⟩
  · rintro (h | ⟨r, hr, h⟩)
    · exact absurd h mem_nil
    · exact ⟨r, (List.mem_filter.1 hr).1, h⟩
  · rintro ⟨r, hr, h⟩
    exact .inr ⟨r, List.mem_filter.2 ⟨hr, by simp; omega⟩, h⟩
theorem NormOk.new {l i o : List Rn} {k : Nat} {x : Rn} (h : NormOk l i o) (hk : i[k]? = some x) (hm : ∀ r ∈ i, x.lo ≤ r.lo) (ho : ∀ o' y, o = o' ++ [y] → y.hi + 1 < x.lo) : NormOk l (takeAt i k) (o ++ [x]) := by
  have hx := h.each x (List.mem_of_getElem? hk)
  refine ⟨wf_append h.wf ⟨hx, fun _ h => (by cases h), trivial⟩ (fun a ha b hb => ?_), fun r hr => h.each r ((takeAt_in hk r).2 (.inl hr)), fun a ha r hr => ?_, fun y => ?_⟩
  · rcases List.mem_cons.1 hb with rfl | hb
    · rcases List.eq_nil_or_concat o with rfl | ⟨o', y, rfl⟩
      · cases ha
      · rw [List.concat_eq_append] at *
        have h1 := ho o' y rfl
        obtain ⟨w1, w2, w3⟩ := wf_split h.wf
        rcases List.mem_append.1 ha with ha | ha
        · have := w3 a ha y List.mem_cons_self
          have := w2.1
          omega
        · rcases List.mem_cons.1 ha with rfl | ha
          · exact h1
          · cases ha
    · cases hb
  · have hr' := (takeAt_in hk r).2 (.inl hr)
    rcases List.mem_append.1 ha with ha | ha
    · exact h.low a ha r hr'
    · rcases List.mem_cons.1 ha with rfl | ha
      · exact hm r hr'
      · cases ha
  · rw [← h.mem y, takeAt_mem hk, mem_append', mem_one]
    constructor
    · rintro ((h | h) | h)
      · exact .inl h
      · exact .inr (.inr h)
      · exact .inr (.inl h)
    · rintro (h | h | h)
      · exact .inl (.inl h)
      · exact .inr h
      · exact .inl (.inr h)
theorem NormOk.join {l i o : List Rn} {k : Nat} {x y : Rn} (h : NormOk l i (o ++ [y])) (hk : i[k]? = some x) (hm : ∀ r ∈ i, x.lo ≤ r.lo) (h1 : x.lo ≤ y.hi + 1) : NormOk l (takeAt i k) (o ++ [⟨y.lo, max y.hi x.hi⟩]) := by
  have hx := h.each x (List.mem_of_getElem? hk)
  obtain ⟨w1, w2, w3⟩ := wf_split h.wf
  have hy := w2.1
  have hyx := h.low y (List.mem_append.2 (.inr List.mem_cons_self)) x (List.mem_of_getElem? hk)
  refine ⟨wf_append w1 ⟨by simp only; omega, fun _ h => (by cases h), trivial⟩ (fun a ha b hb => ?_), fun r hr => h.each r ((takeAt_in hk r).2 (.inl hr)), fun a ha r hr => ?_, fun z => ?_⟩
  · rcases List.mem_cons.1 hb with rfl | hb
    · exact w3 a ha y List.mem_cons_self
    · cases hb
  · have hr' := (takeAt_in hk r).2 (.inl hr)
    rcases List.mem_append.1 ha with ha | ha
    · exact h.low a (List.mem_append.2 (.inl ha)) r hr'
    · rcases List.mem_cons.1 ha with rfl | ha
      · exact h.low y (List.mem_append.2 (.inr List.mem_cons_self)) r hr'
      · cases ha
  · rw [← h.mem z, takeAt_mem hk, mem_append', mem_append', mem_one, mem_one]
    have e : (y.lo ≤ z ∧ z ≤ max y.hi x.hi) ↔ (y.lo ≤ z ∧ z ≤ y.hi) ∨ (x.lo ≤ z ∧ z ≤ x.hi) := by omega
    rw [e]
    constructor
    · rintro ((h | h | h) | h)
      · exact .inl (.inl h)
      · exact .inl (.inr h)
      · exact .inr (.inr h)
      · exact .inr (.inl h)
    · rintro ((h | h) | h | h)
      · exact .inl (.inl h)
      · exact .inl (.inr (.inl h))
      · exact .inr h
      · exact .inl (.inr (.inr h))
/-- The fewest runs of the numbers of these ones. -/
def normL (l : List Rn) : List Rn := List.foldl addL [] l
theorem NormOk.done {l o : List Rn} (h : NormOk l [] o) : o = normL l := by
  obtain ⟨a1, a2⟩ := foldl_addL l [] trivial
  refine wf_unique h.wf a1 (fun y => ?_)
  show memR o y ↔ memR (List.foldl addL [] l) y
  rw [a2, ← h.mem y]
  constructor
  · rintro h
    exact .inr (.inl h)
  · rintro (h | h | h)
    · exact absurd h mem_nil
    · exact h
    · exact absurd h mem_nil
theorem norm_wf (l : List Rn) : WfR (normL l) ∧ ∀ y, memR (normL l) y ↔ memR l y := by
  obtain ⟨a1, a2⟩ := foldl_addL l [] trivial
  refine ⟨a1, fun y => ?_⟩
  rw [normL, a2]
  exact ⟨fun h => h.elim (fun h => absurd h mem_nil) id, .inr⟩
theorem norm_snoc {L : List Rn} (hw : WfR L) (r : Rn) : normL (L ++ [r]) = addL L r := by
  obtain ⟨a1, a2⟩ := norm_wf (L ++ [r])
  obtain ⟨b1, b2⟩ := addL_ok hw r
  refine wf_unique a1 b1 (fun y => ?_)
  rw [a2, b2, mem_append', mem_one]
theorem norm_bd {Q : Rn → Prop} (hQ : ∀ a b, Q a → Q b → Q ⟨min a.lo b.lo, max a.hi b.hi⟩) : ∀ (l L : List Rn), (∀ r ∈ L, Q r) → (∀ r ∈ l, Q r) → ∀ r ∈ List.foldl addL L l, Q r
  | [], L, h, _ => h
  | x :: l, L, h, hl => by
    refine norm_bd hQ l (addL L x) ?_ (fun r hr => hl r (List.mem_cons_of_mem _ hr))
    unfold addL
    split
    · have := addS_all hQ L ⟨[], x, []⟩ h (fun _ h => by cases h) (hl x List.mem_cons_self) (fun _ h => by cases h)
      intro r hr
      simp only [AddS.all] at hr
      rcases List.mem_append.1 hr with hr | hr
      · rcases List.mem_append.1 hr with hr | hr
        · exact this.1 r hr
        · rcases List.mem_cons.1 hr with rfl | hr
          · exact this.2.1
          · cases hr
      · exact this.2.2 r hr
    · exact h
/-! ### The numbers one by one -/
def numsR (r : Rn) : List Int := (List.range (r.hi - r.lo + 1).toNat).map (fun i : Nat => r.lo + (i : Int))
def numsL (L : List Rn) : List Int := L.flatMap numsR
theorem numsR_len (r : Rn) : (numsR r).length = (r.hi - r.lo + 1).toNat := by simp [numsR]
/-- The numbers of the first k runs, and of the next one as far as x (x out). -/
def numsU (L : List Rn) (k : Nat) (x : Int) : List Int := numsL (L.take k) ++ (match L[k]? with | some r => numsR ⟨r.lo, x - 1⟩ | none => [])
theorem numsR_snoc {lo x : Int} (h : lo ≤ x) : numsR ⟨lo, x - 1⟩ ++ [x] = numsR ⟨lo, x⟩ := by
  unfold numsR
  simp only
  rw [show (x - lo + 1).toNat = (x - 1 - lo + 1).toNat + 1 by omega, List.range_succ, List.map_append]
  simp; omega
theorem numsU_start (L : List Rn) {k : Nat} {r : Rn} (h : L[k]? = some r) : numsU L k r.lo = numsL (L.take k) := by
  unfold numsU
  rw [h]
  simp only
  unfold numsR
  simp
  omega
theorem numsU_step (L : List Rn) {k : Nat} {r : Rn} (h : L[k]? = some r) {x : Int} (hx : r.lo ≤ x) : numsU L k x ++ [x] = numsU L k (x + 1) := by
  unfold numsU
  rw [h]
  simp only
  rw [List.append_assoc, numsR_snoc hx, Int.add_sub_cancel]
theorem numsU_end (L : List Rn) {k : Nat} {r : Rn} (h : L[k]? = some r) : numsU L k (r.hi + 1) = numsL (L.take (k + 1)) := by
  obtain ⟨h1, rfl⟩ := List.getElem?_eq_some_iff.1 h
  unfold numsU numsL
  rw [h, List.take_succ_eq_append_getElem h1, List.flatMap_append]
  simp
theorem numsL_prefix (L : List Rn) (k : Nat) : numsL (L.take k) <+: numsL L := by
  unfold numsL
  conv => rhs; rw [← List.take_append_drop k L, List.flatMap_append]
  exact ⟨_, rfl⟩
theorem numsU_prefix1 (L : List Rn) {k : Nat} {r : Rn} (h : L[k]? = some r) {x : Int} (hx : r.lo ≤ x) (hh : x ≤ r.hi) : numsU L k x ++ [x] <+: numsL (L.take (k + 1)) := by
  obtain ⟨h1, rfl⟩ := List.getElem?_eq_some_iff.1 h
  unfold numsU
  rw [h]
  simp only
  rw [List.append_assoc, numsR_snoc hx]
  unfold numsL
  rw [List.take_succ_eq_append_getElem h1, List.flatMap_append]
  refine ⟨(List.range (L[k].hi - x).toNat).map (fun i : Nat => x + 1 + (i : Int)), ?_⟩
  rw [List.append_assoc]
  congr 1
  simp only [List.flatMap_cons, List.flatMap_nil, List.append_nil]
  unfold numsR
  rw [show (L[k].hi - L[k].lo + 1).toNat = (x - L[k].lo + 1).toNat + (L[k].hi - x).toNat by omega, List.range_add, List.map_append, List.map_map]
  congr 1
  apply List.map_congr_left
  intro a _
  simp only [Function.comp]
  omega
theorem numsU_prefix (L : List Rn) {k : Nat} {r : Rn} (h : L[k]? = some r) {x : Int} (hx : r.lo ≤ x) (hh : x ≤ r.hi) : numsU L k x ++ [x] <+: numsL L :=
  (numsU_prefix1 L h hx hh).trans (numsL_prefix L (k + 1))
theorem take_prefix {α : Type} {P Q : List α} {n : Nat} (h : P <+: Q) (hn : n ≤ P.length) : Q.take n = P.take n := by
  obtain ⟨t, rfl⟩ := h
  rw [List.take_append_of_le_length hn]
theorem numsL_bd {L : List Rn} {m M : Int} (h : ∀ r ∈ L, m ≤ r.lo ∧ r.hi ≤ M) : ∀ x ∈ numsL L, m ≤ x ∧ x ≤ M := by
  intro x hx
  obtain ⟨r, hr, hx⟩ := List.mem_flatMap.1 hx
  unfold numsR at hx
  obtain ⟨i, hi, rfl⟩ := List.mem_map.1 hx
  have := List.mem_range.1 hi
  have := h r hr
  omega
end Go.Proofs.Ytffapgemacbdjaa
