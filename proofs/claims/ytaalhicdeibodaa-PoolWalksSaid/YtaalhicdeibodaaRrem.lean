/- Package runs: plain laws of Remove and Has. No program. -/
import Derived.Test.YtaalhicdeibodaaRnp
namespace Go.Proofs.Ytaalhicdeibodaa
set_option linter.unusedVariables false
/-- What is left of a run. -/
def remP (lo hi : Int) (x : Rn) : List Rn := if x.hi < lo ∨ hi < x.lo then [x] else (if x.lo < lo then [⟨x.lo, lo - 1⟩] else []) ++ (if hi < x.hi then [⟨hi + 1, x.hi⟩] else [])
def remL (L : List Rn) (lo hi : Int) : List Rn := L.flatMap (remP lo hi)
theorem remL_snoc {L : List Rn} {k : Nat} {x : Rn} (h : L[k]? = some x) (lo hi : Int) : remL (L.take (k + 1)) lo hi = remL (L.take k) lo hi ++ remP lo hi x := by
  obtain ⟨h1, rfl⟩ := List.getElem?_eq_some_iff.1 h
  unfold remL
  rw [List.take_succ_eq_append_getElem h1, List.flatMap_append]
  simp
theorem remP_in {lo hi : Int} {x y : Rn} (hle : lo ≤ hi) (hx : x.lo ≤ x.hi) (hy : y ∈ remP lo hi x) : y.lo ≤ y.hi ∧ x.lo ≤ y.lo ∧ y.hi ≤ x.hi := by
  unfold remP at hy
  split at hy
  · rcases List.mem_cons.1 hy with rfl | hy
    · exact ⟨hx, Int.le_refl _, Int.le_refl _⟩
    · cases hy
  · rename_i hn
    rcases List.mem_append.1 hy with hy | hy
    · split at hy
      · rcases List.mem_cons.1 hy with rfl | hy
        · simp only; omega
        · cases hy
      · cases hy
    · split at hy
      · rcases List.mem_cons.1 hy with rfl | hy
        · simp only; omega
        · cases hy
      · cases hy
theorem remP_wf {lo hi : Int} {x : Rn} (hle : lo ≤ hi) (hx : x.lo ≤ x.hi) : WfR (remP lo hi x) := by
  unfold remP
  split
  · exact ⟨hx, fun _ h => (by cases h), trivial⟩
  · rename_i hn
    refine wf_append ?_ ?_ ?_
    · split
      · exact ⟨by simp only; omega, fun _ h => (by cases h), trivial⟩
      · trivial
    · split
      · exact ⟨by simp only; omega, fun _ h => (by cases h), trivial⟩
      · trivial
    · intro a ha b hb
      split at ha
      · split at hb
        · rcases List.mem_cons.1 ha with rfl | ha
          · rcases List.mem_cons.1 hb with rfl | hb
            · simp only; omega
            · cases hb
          · cases ha
        · cases hb
      · cases ha
theorem remP_num {lo hi : Int} {x : Rn} {y : Int} (hle : lo ≤ hi) : memR (remP lo hi x) y ↔ (x.lo ≤ y ∧ y ≤ x.hi) ∧ ¬ (lo ≤ y ∧ y ≤ hi) := by
  unfold remP
  split
  · rw [mem_one]
    rename_i h
    rcases h with h | h <;> omega
  · rename_i hn
    rw [mem_append']
    constructor
    · rintro (h | h)
      · split at h
        · rw [mem_one] at h; simp only at h; omega
        · exact absurd h mem_nil
      · split at h
        · rw [mem_one] at h; simp only at h; omega
        · exact absurd h mem_nil
    · rintro ⟨h1, h2⟩
      by_cases h3 : y < lo
      · left
        rw [if_pos (show x.lo < lo by omega), mem_one]
        simp only; omega
      · right
        rw [if_pos (show hi < x.hi by omega), mem_one]
        simp only; omega
theorem remL_ok : ∀ {L : List Rn}, WfR L → ∀ (lo hi : Int), lo ≤ hi → WfR (remL L lo hi) ∧ ∀ y, memR (remL L lo hi) y ↔ memR L y ∧ ¬ (lo ≤ y ∧ y ≤ hi)
  | [], _, lo, hi, _ => ⟨trivial, fun y => ⟨fun h => absurd h mem_nil, fun h => absurd h.1 mem_nil⟩⟩
  | x :: L, hw, lo, hi, hle => by
    obtain ⟨h1, h2⟩ := remL_ok hw.2.2 lo hi hle
    have e : remL (x :: L) lo hi = remP lo hi x ++ remL L lo hi := rfl
    rw [e]
    refine ⟨wf_append (remP_wf hle hw.1) h1 (fun a ha b hb => ?_), fun y => ?_⟩
    · have ha2 := remP_in hle hw.1 ha
      obtain ⟨z, hz, hb2⟩ := List.mem_flatMap.1 hb
      have hb3 := remP_in hle (hw.2.2.each z hz) hb2
      have := hw.2.1 z hz
      omega
    · have e2 : memR (x :: L) y ↔ (x.lo ≤ y ∧ y ≤ x.hi) ∨ memR L y := by
        rw [show x :: L = [x] ++ L from rfl, mem_append', mem_one]
      rw [mem_append', remP_num hle, h2, e2]
      constructor
      · rintro (⟨a, b⟩ | ⟨a, b⟩)
        · exact ⟨.inl a, b⟩
        · exact ⟨.inr a, b⟩
      · rintro ⟨a | a, b⟩
        · exact .inl ⟨a, b⟩
        · exact .inr ⟨a, b⟩
theorem remL_mem {L : List Rn} {lo hi : Int} {Q : Rn → Prop} (hQ : ∀ x ∈ L, Q x) (h1 : ∀ x, Q x → x.lo < lo → Q ⟨x.lo, lo - 1⟩) (h2 : ∀ x, Q x → hi < x.hi → Q ⟨hi + 1, x.hi⟩) : ∀ y ∈ remL L lo hi, Q y := by
  intro y hy
  obtain ⟨x, hx, hy⟩ := List.mem_flatMap.1 hy
  have hq := hQ x hx
  unfold remP at hy
  split at hy
  · rcases List.mem_cons.1 hy with rfl | hy
    · exact hq
    · cases hy
  · rcases List.mem_append.1 hy with hy | hy
    · split at hy
      · rcases List.mem_cons.1 hy with rfl | hy
        · exact h1 x hq ‹_›
        · cases hy
      · cases hy
    · split at hy
      · rcases List.mem_cons.1 hy with rfl | hy
        · exact h2 x hq ‹_›
        · cases hy
      · cases hy
theorem remL_len (L : List Rn) (lo hi : Int) : (remL L lo hi).length ≤ 2 * L.length := by
  induction L with
  | nil => simp [remL]
  | cons x L ih =>
    have e : remL (x :: L) lo hi = remP lo hi x ++ remL L lo hi := rfl
    have h2 : (remP lo hi x).length ≤ 2 := by
      unfold remP
      split
      · simp
      · split <;> split <;> simp
    rw [e, List.length_append, List.length_cons]
    omega
/-- How many Remove says were there; what is left; the least number. -/
def remN (L : List Rn) (lo hi : Int) : Int := if lo ≤ hi then (withinL L ⟨lo, hi⟩).foldl withZ 0 else 0
def remA (L : List Rn) (lo hi : Int) : List Rn := if lo ≤ hi then remL L lo hi else L
theorem remP_same {lo hi : Int} {x : Rn} (h : hi < x.lo) : remP lo hi x = [x] := by unfold remP; rw [if_pos (.inr h)]
theorem remL_len1 : ∀ {L : List Rn}, WfR L → ∀ lo hi, (remL L lo hi).length ≤ L.length + 1
  | [], _, lo, hi => by simp [remL]
  | x :: L, hw, lo, hi => by
    have ih := remL_len1 hw.2.2 lo hi
    have e : remL (x :: L) lo hi = remP lo hi x ++ remL L lo hi := rfl
    rw [e, List.length_append, List.length_cons]
    by_cases h : hi < x.hi
    · have hs : remL L lo hi = L := by
        unfold remL
        have : ∀ y ∈ L, remP lo hi y = [y] := fun y hy => remP_same (by have := hw.2.1 y hy; omega)
        clear ih e
        have hh : ∀ M : List Rn, (∀ y ∈ M, remP lo hi y = [y]) → M.flatMap (remP lo hi) = M := by
          intro M hM
          induction M with
          | nil => rfl
          | cons z M ihM => rw [List.flatMap_cons, hM z List.mem_cons_self, ihM (fun y hy => hM y (List.mem_cons_of_mem _ hy))]; rfl
        exact hh L this
      have h2 : (remP lo hi x).length ≤ 2 := by
        have e2 : (if hi < x.hi then [(⟨hi + 1, x.hi⟩ : Rn)] else []) = [⟨hi + 1, x.hi⟩] := if_pos h
        unfold remP
        by_cases hc : x.hi < lo ∨ hi < x.lo
        · rw [if_pos hc]; simp
        · rw [if_neg hc, e2]
          by_cases hx : x.lo < lo
          · rw [if_pos hx]; exact Nat.le_refl _
          · rw [if_neg hx]; simp
      rw [hs]
      omega
    · have h1 : (remP lo hi x).length ≤ 1 := by
        have e2 : (if hi < x.hi then [(⟨hi + 1, x.hi⟩ : Rn)] else []) = [] := if_neg h
        unfold remP
        by_cases hc : x.hi < lo ∨ hi < x.lo
        · rw [if_pos hc]; exact Nat.le_refl _
        · rw [if_neg hc, e2, List.append_nil]
          by_cases hx : x.lo < lo
          · rw [if_pos hx]; exact Nat.le_refl _
          · rw [if_neg hx]; exact Nat.zero_le _
      omega
theorem remA_len1 {L : List Rn} (hw : WfR L) (lo hi : Int) : (remA L lo hi).length ≤ L.length + 1 := by
  unfold remA
  split
  · exact remL_len1 hw lo hi
  · omega
def lowL : List Rn → Int × Bool
  | [] => (0, false)
  | r :: _ => (r.lo, true)
/-- Is a number there? -/
def hasB (L : List Rn) (x : Int) : Bool := L.any fun r => decide (r.lo ≤ x ∧ x ≤ r.hi)
theorem hasB_iff (L : List Rn) (x : Int) : hasB L x = true ↔ memR L x := by
  unfold hasB
  rw [List.any_eq_true]
  constructor
  · rintro ⟨r, hr, h⟩
    exact ⟨r, hr, of_decide_eq_true h⟩
  · rintro ⟨r, hr, h⟩
    exact ⟨r, hr, decide_eq_true h⟩
theorem within_has (L : List Rn) (x : Int) : withinL L ⟨x, x⟩ = [] ↔ hasB L x = false := by
  constructor
  · intro h
    cases hb : hasB L x with
    | false => rfl
    | true =>
      obtain ⟨r, hr, h1, h2⟩ := (hasB_iff L x).1 hb
      have : clipR ⟨x, x⟩ r ∈ withinL L ⟨x, x⟩ := by
        unfold withinL
        rw [List.mem_filter, List.mem_map]
        refine ⟨⟨r, hr, rfl⟩, decide_eq_true ?_⟩
        simp only [clipR]
        omega
      rw [h] at this
      cases this
  · intro h
    cases hw : withinL L ⟨x, x⟩ with
    | nil => rfl
    | cons y ws =>
      have hy : y ∈ withinL L ⟨x, x⟩ := by rw [hw]; exact List.mem_cons_self
      obtain ⟨m1, m2, m3, z, hz, rfl⟩ := within_mem hy
      simp only [clipR] at m1
      have : hasB L x = true := (hasB_iff L x).2 ⟨z, hz, by omega, by omega⟩
      rw [h] at this
      cases this
end Go.Proofs.Ytaalhicdeibodaa
