/- Layer 5: plain laws of RunsMeaning: a set of 256 numbers, number by number. No program. -/
import Derived.Test.YtffapgemacbdjaaRnorm
namespace Go.Proofs.Ytffapgemacbdjaa
set_option linter.unusedVariables false
/-- Is it the last number of a run? -/
def endB (L : List Rn) (x : Int) : Bool := hasB L x && !hasB L (x + 1)
theorem end_eq : ∀ {L : List Rn}, WfR L → ∀ x, endB L x = L.any (fun r => decide (r.hi = x))
  | [], _, x => rfl
  | r :: L, hw, x => by
    have ih := end_eq hw.2.2 x
    have h1 := hw.1
    rw [Bool.eq_iff_iff]
    unfold endB
    rw [Bool.and_eq_true, Bool.not_eq_true', hasB_iff, List.any_eq_true]
    constructor
    · rintro ⟨⟨s, hs, a, b⟩, h3⟩
      refine ⟨s, hs, decide_eq_true ?_⟩
      rcases Int.lt_or_eq_of_le b with hb | hb
      · have : hasB (r :: L) (x + 1) = true := (hasB_iff _ _).2 ⟨s, hs, by omega, by omega⟩
        rw [this] at h3; cases h3
      · exact hb.symm
    · rintro ⟨s, hs, h⟩
      have h := of_decide_eq_true h
      subst h
      have hse := hw.each s hs
      refine ⟨⟨s, hs, hse, Int.le_refl _⟩, ?_⟩
      cases hc : hasB (r :: L) (s.hi + 1) with
      | false => rfl
      | true =>
        obtain ⟨t, ht, a, b⟩ := (hasB_iff _ _).1 hc
        rcases List.mem_cons.1 hs with e | hs2
        · subst e
          rcases List.mem_cons.1 ht with e | ht
          · subst e; omega
          · have := hw.2.1 t ht; omega
        · rcases List.mem_cons.1 ht with e | ht
          · subst e
            have := hw.2.1 s hs2; omega
          · have hc2 : hasB L (s.hi + 1) = true := (hasB_iff _ _).2 ⟨t, ht, a, b⟩
            have h5 := end_eq hw.2.2 s.hi
            have h6 : L.any (fun r => decide (r.hi = s.hi)) = true := List.any_eq_true.2 ⟨s, hs2, decide_eq_true rfl⟩
            rw [h6] at h5
            unfold endB at h5
            rw [hc2] at h5
            simp at h5
theorem numC_one {m a : Int} (h1 : m ≤ a) : ∀ n : Nat, (numC (fun x => decide (a = x)) m n) = if a < m + n then 1 else 0
  | 0 => by simp [numC]; omega
  | n + 1 => by
    simp only [numC]
    rw [numC_one h1 n]
    by_cases h : a = m + n
    · simp [h]; omega
    · by_cases h2 : a < m + n
      · simp [h, h2]; omega
      · simp [h, h2]; omega
theorem end_len {m : Int} {n : Nat} : ∀ {L : List Rn}, WfR L → InB m n L → numC (fun x => L.any (fun r => decide (r.hi = x))) m n = L.length
  | [], _, _ => numC_none (fun _ _ => rfl)
  | r :: L, hw, hb => by
    have e : (fun x => (r :: L).any (fun r => decide (r.hi = x))) = fun x => decide (r.hi = x) || L.any (fun r => decide (r.hi = x)) := rfl
    rw [e, numC_or (fun x h => ?_)]
    · have h1 := hb r List.mem_cons_self
      have h2 := hw.1
      rw [end_len hw.2.2 (fun s hs => hb s (List.mem_cons_of_mem _ hs)), numC_one (by omega), if_pos h1.2, List.length_cons]
      omega
    · have h := of_decide_eq_true h
      rw [Bool.eq_false_iff]
      intro hc
      obtain ⟨s, hs, h'⟩ := List.any_eq_true.1 hc
      have h' := of_decide_eq_true h'
      have := hw.2.1 s hs
      have := hw.2.2.each s hs
      omega
theorem ends_all {m : Int} {n : Nat} {L : List Rn} (hw : WfR L) (hb : InB m n L) : numC (endB L) m n = L.length := by
  rw [numC_ext (g := fun x => L.any (fun r => decide (r.hi = x))) (fun i hi => end_eq hw (m + i)), end_len hw hb]
theorem len_inb {m : Int} {n : Nat} {L : List Rn} (hw : WfR L) (hb : InB m n L) : L.length ≤ n := by
  rw [← ends_all hw hb]; exact numC_le _ _ _
theorem norm_self {L : List Rn} (hw : WfR L) : List.foldl addL [] L = L :=
  wf_unique (norm_wf L).1 hw (norm_wf L).2
/-- How many are new, one by one. -/
theorem add_ones {L : List Rn} {lo hi : Int} (hw : WfR L) (h : lo ≤ hi) (hn : hi - lo < 1000000) :
    (gapsL (withinL L ⟨lo, hi⟩) ⟨lo, hi⟩).foldl withZ 0 = (numC (fun x => hasB L x == false) lo (hi + 1 - lo).toNat : Int) := by
  obtain ⟨g1, g2, g3⟩ := gaps_wf (withinL L ⟨lo, hi⟩) lo hi (within_wf _ hw) (fun x hx => by
    obtain ⟨m1, m2, m3, _⟩ := within_mem hx
    exact ⟨m2, m3⟩) h
  have hbG : InB lo (hi + 1 - lo).toNat (gapsL (withinL L ⟨lo, hi⟩) ⟨lo, hi⟩) := fun g hg => by have := g2 g hg; omega
  have e1 := cnt_eq g1 hbG
  have hle := numC_le (hasB (gapsL (withinL L ⟨lo, hi⟩) ⟨lo, hi⟩)) lo (hi + 1 - lo).toNat
  rw [withZ_cnt _ 0 (fun r hr => g1.each r hr) (Int.le_refl _) (by omega), e1, Int.zero_add]
  congr 1
  refine numC_ext (fun i hi' => ?_)
  rw [Bool.eq_iff_iff, hasB_iff, g3, within_num, beq_iff_eq]
  have hin : lo ≤ lo + (i : Int) ∧ lo + (i : Int) ≤ hi := by omega
  constructor
  · rintro ⟨_, h2⟩
    rw [Bool.eq_false_iff]
    intro hc
    exact h2 ⟨(hasB_iff _ _).1 hc, hin⟩
  · intro hc
    refine ⟨hin, fun h2 => ?_⟩
    rw [(hasB_iff _ _).2 h2.1] at hc
    cases hc
theorem rem_ones {L : List Rn} {lo hi : Int} (hw : WfR L) (h : lo ≤ hi) (hn : hi - lo < 1000000) :
    (withinL L ⟨lo, hi⟩).foldl withZ 0 = (numC (fun x => hasB L x == true) lo (hi + 1 - lo).toNat : Int) := by
  have g1 := within_wf ⟨lo, hi⟩ hw
  have hbG : InB lo (hi + 1 - lo).toNat (withinL L ⟨lo, hi⟩) := fun g hg => by
    obtain ⟨m1, m2, m3, _⟩ := within_mem hg
    simp only at m2 m3
    omega
  have e1 := cnt_eq g1 hbG
  have hle := numC_le (hasB (withinL L ⟨lo, hi⟩)) lo (hi + 1 - lo).toNat
  rw [withZ_cnt _ 0 (fun r hr => g1.each r hr) (Int.le_refl _) (by omega), e1, Int.zero_add]
  congr 1
  refine numC_ext (fun i hi' => ?_)
  have hin : lo ≤ lo + (i : Int) ∧ lo + (i : Int) ≤ hi := by omega
  rw [Bool.eq_iff_iff, hasB_iff, within_num, beq_iff_eq, hasB_iff]
  exact ⟨fun h => h.1, fun h => ⟨h, hin⟩⟩
theorem add_bit {L : List Rn} (hw : WfR L) (lo hi x : Int) : hasB (addL L ⟨lo, hi⟩) x = if lo ≤ x ∧ x ≤ hi then true else hasB L x := by
  obtain ⟨_, a2⟩ := addL_ok hw ⟨lo, hi⟩
  split
  · rw [hasB_iff, a2]; exact .inr ‹_›
  · rw [Bool.eq_iff_iff, hasB_iff, hasB_iff, a2]
    exact ⟨fun h => h.elim id (fun h => absurd h ‹_›), .inl⟩
theorem rem_bit {L : List Rn} (hw : WfR L) {lo hi : Int} (h : lo ≤ hi) (x : Int) : hasB (remL L lo hi) x = if lo ≤ x ∧ x ≤ hi then false else hasB L x := by
  obtain ⟨_, a2⟩ := remL_ok hw lo hi h
  split
  · rw [Bool.eq_false_iff]
    intro hc
    exact ((a2 x).1 ((hasB_iff _ _).1 hc)).2 ‹_›
  · rw [Bool.eq_iff_iff, hasB_iff, hasB_iff, a2]
    exact ⟨fun h => h.1, fun h => ⟨h, ‹_›⟩⟩
theorem addL_none (L : List Rn) {lo hi : Int} (h : ¬ lo ≤ hi) : addL L ⟨lo, hi⟩ = L := by
  unfold addL; rw [if_neg h]
end Go.Proofs.Ytffapgemacbdjaa
