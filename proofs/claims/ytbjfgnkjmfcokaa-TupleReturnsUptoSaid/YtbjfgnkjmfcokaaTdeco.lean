/- Layer 3: what the values that are read are like: plain laws. No program. -/
import Derived.Test.YtbjfgnkjmfcokaaTdlaw
namespace Go.Proofs.Ytbjfgnkjmfcokaa
open Go.RowKit Go.Proofs
set_option linter.unusedVariables false
theorem eqB_iff (a b : List UInt8) : eqB a b = true ↔ a = b := by simp [eqB]
theorem length_putB2 {v : Vl} (h : v.Ok) : (putB v).length ≤ 2 * v.text.length + 17 := by
  have h1 := length_putI h.int
  have h2 := length_escB v.text
  unfold putB
  split
  · simp
  split
  · simp
  split
  · omega
  split
  · simp [length_bigB]
  split
  · simp [length_bigB]
  · simp; omega
theorem unT_len : ∀ b : List UInt8, (unT b).length ≤ b.length
  | [] => by simp [unT]
  | x :: [] => by simp only [unT]; split <;> simp [unT]
  | x :: y :: t => by
    have h1 := unT_len t
    have h2 := unT_len (y :: t)
    simp only [List.length_cons] at h2 ⊢
    simp only [unT] at h2 ⊢
    split
    · split <;> simp <;> omega
    · simp only [List.length_cons]; omega
theorem gath_fold_lt : ∀ (r : List UInt8) (s : Nat), s < 18446744073709551616 → r.foldl gath s < 18446744073709551616
  | [], s, h => h
  | c :: t, s, h => gath_fold_lt t _ (gath_lt s c)
theorem valB_like (b : List UInt8) : 0 ≤ (valB b).kind ∧ (valB b).kind ≤ 5 ∧ (valB b).text.length ≤ b.length ∧ (b.length ≤ 140737488355328 → (valB b).Ok) := by
  match b with
  | [] => exact ⟨by simp [valB, Vl.zero], by simp [valB, Vl.zero], by simp [valB, Vl.zero], fun _ => ⟨by simp [valB, Vl.zero], by simp [valB, Vl.zero], by simp [valB, Vl.zero], by simp [valB, Vl.zero], by simp [valB, Vl.zero], by simp [valB, Vl.zero]⟩⟩
  | c :: r =>
    unfold valB
    simp only
    split
    · exact ⟨by simp [Vl.zero], by simp [Vl.zero], by simp [Vl.zero], fun _ => ⟨by simp [Vl.zero], by simp [Vl.zero], by simp [Vl.zero], by simp [Vl.zero], by simp [Vl.zero], by simp [Vl.zero]⟩⟩
    split
    · exact ⟨by simp, by simp, by simp [Vl.zero], fun _ => ⟨by simp, by simp [Vl.zero], by simp [Vl.zero], by simp [Vl.zero], by simp [Vl.zero], by simp [Vl.zero]⟩⟩
    split
    · have hX := gath_fold_lt r (if c.toNat < 32 then 18446744073709551615 else 0) (by split <;> omega)
      generalize r.foldl gath (if c.toNat < 32 then 18446744073709551615 else 0) = X at hX
      exact ⟨by simp, by simp, by simp [Vl.zero], fun _ => ⟨by simp, by simp only; split <;> omega, by simp [Vl.zero], by simp [Vl.zero], by simp [Vl.zero], by simp [Vl.zero]⟩⟩
    split
    · have hX := unrankN_bd (bN_lt8 (b := r.take 8) (by simp; omega))
      exact ⟨by simp, by simp, by simp [Vl.zero], fun _ => ⟨by simp, by simp [Vl.zero], hX, by simp [Vl.zero], by simp [Vl.zero], by simp [Vl.zero]⟩⟩
    split
    · have hX := unrankN_bd (bN_lt8 (b := r.take 8) (by simp; omega))
      have hY := unrankN_bd (bN_lt8 (b := (r.drop 8).take 8) (by simp; omega))
      exact ⟨by simp, by simp, by simp [Vl.zero], fun _ => ⟨by simp, by simp [Vl.zero], by simp [Vl.zero], hX, hY, by simp [Vl.zero]⟩⟩
    · have hT := unT_len r
      exact ⟨by simp, by simp, by simp; omega, fun h => ⟨by simp, by simp [Vl.zero], by simp [Vl.zero], by simp [Vl.zero], by simp [Vl.zero], by simp at h ⊢; omega⟩⟩
theorem getV_like (b : List UInt8) : 0 ≤ (getV b).kind ∧ (getV b).kind ≤ 5 ∧ (getV b).text.length ≤ b.length ∧ (b.length ≤ 140737488355328 → (getV b).Ok) := by
  obtain ⟨h1, h2, h3, h4⟩ := valB_like (b.take (lenB b))
  have hl : (b.take (lenB b)).length ≤ b.length := by simp; omega
  exact ⟨h1, h2, Nat.le_trans h3 hl, fun h => h4 (Nat.le_trans hl h)⟩
theorem decL_step {b : List UInt8} (hne : b ≠ []) (hg : getE b = 0) : decL b = (if (decL (b.drop (lenB b))).2 = 0 then getV b :: (decL (b.drop (lenB b))).1 else [], (decL (b.drop (lenB b))).2) := by
  rw [decL, dif_neg hne, dif_pos hg]
theorem decL_nil : decL [] = ([], 0) := by rw [decL]; rfl
theorem decL_fail {b : List UInt8} (hne : b ≠ []) (hg : getE b ≠ 0) : decL b = ([], getE b) := by
  rw [decL, dif_neg hne, dif_neg hg]
theorem decL_like : ∀ (n : Nat) (b : List UInt8), b.length ≤ n → (decL b).1.length ≤ b.length ∧ ∀ v ∈ (decL b).1, v.text.length ≤ b.length ∧ (b.length ≤ 140737488355328 → v.Ok)
  | n, [], _ => by rw [decL_nil]; simp
  | 0, x :: r, h => by simp at h
  | n + 1, x :: r, h => by
    by_cases hg : getE (x :: r) = 0
    · rw [decL_step (by simp) hg]
      obtain ⟨h1, h2⟩ := lenB_pos hg
      obtain ⟨k1, k2⟩ := decL_like n ((x :: r).drop (lenB (x :: r))) (by rw [List.length_drop]; omega)
      have hd : ((x :: r).drop (lenB (x :: r))).length = (x :: r).length - lenB (x :: r) := List.length_drop
      simp only
      split
      · refine ⟨by rw [List.length_cons]; omega, fun v hv => ?_⟩
        rcases List.mem_cons.1 hv with rfl | hv
        · obtain ⟨_, _, h3, h4⟩ := getV_like (x :: r)
          exact ⟨h3, h4⟩
        · obtain ⟨h3, h4⟩ := k2 v hv
          exact ⟨by omega, fun h5 => h4 (by omega)⟩
      · simp
    · rw [decL_fail (by simp) hg]
      simp
theorem decO_len (b : List UInt8) : (decO b).length ≤ 4096 := by
  unfold decO
  split
  · simp
  · have := (decL_like b.length b (Nat.le_refl _)).1
    omega
theorem decO_mem {b : List UInt8} {v : Vl} (h : v ∈ decO b) : v.text.length ≤ 4096 ∧ v.Ok := by
  unfold decO at h
  split at h
  · cases h
  · obtain ⟨h1, h2⟩ := (decL_like b.length b (Nat.le_refl _)).2 v h
    exact ⟨by omega, h2 (by omega)⟩
theorem decO_of {b : List UInt8} {l : List Vl} {e : Int} (hb : ¬ 4096 < b.length) (h : decL b = (l, e)) : decO b = l ∧ decE b = e := by
  unfold decO decE
  rw [if_neg hb, if_neg hb, h]
  exact ⟨rfl, rfl⟩
theorem decO_many {b : List UInt8} (hb : 4096 < b.length) : decO b = [] ∧ decE b = 4 := by
  unfold decO decE
  rw [if_pos hb, if_pos hb]
  exact ⟨rfl, rfl⟩
end Go.Proofs.Ytbjfgnkjmfcokaa
