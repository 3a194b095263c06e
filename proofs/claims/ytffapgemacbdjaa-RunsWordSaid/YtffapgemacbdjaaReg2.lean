/- Layer 5: slot, least. No condition. -/
import Derived.Test.YtffapgemacbdjaaRee2
import Derived.Test.YtffapgemacbdjaaRed2
namespace Go.Proofs.Ytffapgemacbdjaa
open Go.RowKit Go.Proofs Go.Shelf
set_option linter.unusedVariables false
/-- 0, 1 or 2. -/
def slotN (n : Int) : Nat := ((n.tmod 3 + 3).tmod 3).toNat
theorem slotN_lt (n : Int) : slotN n < 3 ∧ (n.tmod 3 + 3).tmod 3 = (slotN n : Int) := by
  have h1 := Int.tmod_lt_of_pos n (show (0 : Int) < 3 by decide)
  have h2 := Int.tmod_lt_of_pos (-n) (show (0 : Int) < 3 by decide)
  rw [Int.neg_tmod] at h2
  have h0 : 0 ≤ n.tmod 3 + 3 := by omega
  have h3 := Int.tmod_nonneg 3 h0
  have h4 := Int.tmod_lt_of_pos (n.tmod 3 + 3) (show (0 : Int) < 3 by decide)
  unfold slotN
  omega
theorem slot_any {n : Int} {w : World} : Calls Try.prog 59 #[.int .i64 n] w fun e w' => e = .returned (.int .i64 (slotN n)) ∧ w = w' := by
  obtain ⟨h1, h2⟩ := slotN_lt n
  have h3 := Int.tmod_lt_of_pos n (show (0 : Int) < 3 by decide)
  have h4 := Int.tmod_lt_of_pos (-n) (show (0 : Int) < 3 by decide)
  rw [Int.neg_tmod] at h4
  obtain ⟨t, ht⟩ : ∃ t, n.tmod 3 = t := ⟨_, rfl⟩
  rw [ht] at h2 h3 h4
  have hw : IntKind.i64.wrap (t + 3) = t + 3 := by rw [IntKind.wrap_i64]; omega
  have hw1 : IntKind.i64.wrap t = t := by rw [IntKind.wrap_i64]; omega
  have hw2 : IntKind.i64.wrap (slotN n : Int) = (slotN n : Int) := by rw [IntKind.wrap_i64]; omega
  go_enter Try.func59, Try.ntmps59
  go_wp2
  go_ret
  exact ⟨rfl, rfl⟩
/-- Of K numbers at most some hundred are looked at. -/
def leastN (n : Int) : Nat := if n < 0 then 0 else (min n 200).toNat
theorem leastN_le (n : Int) : leastN n ≤ 200 := by unfold leastN; split <;> omega
theorem least_any {n : Int} {w : World} : Calls Try.prog 74 #[.int .i64 n] w fun e w' => e = .returned (.int .i64 (leastN n)) ∧ w = w' := by
  by_cases h : n < 0
  · have e : leastN n = 0 := if_pos h
    rw [e]
    go_enter Try.func74, Try.ntmps74
    go_wp2
    go_ret
    exact ⟨rfl, rfl⟩
  · have e : (if (200 : Int) < n then 200 else n) = (leastN n : Int) := by
      unfold leastN
      rw [if_neg h]
      split <;> omega
    go_enter Try.func74, Try.ntmps74
    go_wp2
    go_ret
    exact ⟨rfl, rfl⟩
end Go.Proofs.Ytffapgemacbdjaa
