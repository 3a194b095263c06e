/- Layer 3: reals as bits: plain laws. No program. -/
import GoSem.Core.Float
import Derived.Laws.BitsAllLaws
import Derived.Laws.BitsLemmas
namespace Go.Proofs.Ytbjfgnkjmfcokaa
open Go.Proofs
/-- The bits of a NaN. -/
def nanN (x : Nat) : Bool := decide (9218868437227405312 < x % 9223372036854775808)
theorem order_self (x : Nat) : FloatKind.f64.format.order x x = if nanN x then none else some .eq := by
  have h1 : FloatKind.f64.format.signWeight = 9223372036854775808 := rfl
  have h2 : FloatKind.f64.format.infRung = 9218868437227405312 := rfl
  have h3 : FloatKind.f64.format.binade = 4503599627370496 := rfl
  unfold Ieee.Format.order Ieee.Format.read nanN
  simp only [h1, h2, h3]
  by_cases a : x % 9223372036854775808 < 4503599627370496
  · rw [if_pos a, if_neg (by simp; omega)]
    simp [Ieee.Datum.order, Std.ReflCmp.compare_self]
  · rw [if_neg a]
    by_cases b : x % 9223372036854775808 < 9218868437227405312
    · rw [if_pos b, if_neg (by simp; omega)]
      simp [Ieee.Datum.order, Std.ReflCmp.compare_self]
    · rw [if_neg b]
      by_cases c : x % 9223372036854775808 = 9218868437227405312
      · rw [if_pos c, if_neg (by simp; omega)]
        simp [Ieee.Datum.order]
      · rw [if_neg c, if_pos (by simp; omega)]
        rfl
theorem neq_self (x : Nat) : (FloatKind.f64.format.order x x != some .eq) = nanN x := by
  rw [order_self]
  cases nanN x <;> rfl
theorem nan_bits (x : Nat) : ((((x : Int) / 4503599627370496 % 2048 == 2047) && ((x : Int) % 4503599627370496 != 0)) : Bool) = nanN x := by
  unfold nanN
  rw [Bool.eq_iff_iff]
  simp only [Bool.and_eq_true, beq_iff_eq, bne_iff_ne, decide_eq_true_eq]
  omega
/-- The one NaN. -/
def oneN (x : Nat) : Nat := if nanN x then 9221120237041090561 else x
theorem oneN_bd {x : Nat} (h : x < 18446744073709551616) : oneN x < 18446744073709551616 := by
  unfold oneN
  split <;> omega
def rankN (x : Nat) : Nat := if 9223372036854775808 ≤ oneN x then 18446744073709551615 - oneN x else oneN x + 9223372036854775808
theorem rankN_bd {x : Nat} (h : x < 18446744073709551616) : rankN x < 18446744073709551616 := by
  have := oneN_bd h
  unfold rankN
  split <;> omega
def unrankN (r : Nat) : Nat := if 9223372036854775808 ≤ r then r - 9223372036854775808 else 18446744073709551615 - r
theorem unrankN_bd {x : Nat} (h : x < 18446744073709551616) : unrankN x < 18446744073709551616 := by
  unfold unrankN
  split <;> omega
theorem unrank_rank {x : Nat} (h : x < 18446744073709551616) : unrankN (rankN x) = oneN x := by
  have := oneN_bd h
  unfold unrankN rankN
  split <;> split <;> omega
/-- The order of two whole numbers. -/
def cmpI (a b : Int) : Int := if a < b then -1 else if b < a then 1 else 0
theorem cmpI_eq {a b : Int} : cmpI a b = 0 ↔ a = b := by
  unfold cmpI
  split
  · constructor
    · intro h; cases h
    · omega
  · split
    · constructor
      · intro h; cases h
      · omega
    · constructor
      · omega
      · intro _; rfl
theorem u64_and_mod {x : Int} (n : Nat) (m : Int) (h0 : 0 ≤ x) (h : x < 18446744073709551616) (hm : m = 2 ^ n - 1) (hn : n ≤ 64) : bits .and .u64 x m = x % 2 ^ n := by
  subst hm
  have h2 : (2 : Nat) ^ n ≤ 2 ^ 64 := Nat.pow_le_pow_right (by omega) hn
  have h3 : (1 : Nat) ≤ 2 ^ n := Nat.one_le_two_pow
  have e : ((2 : Int) ^ n - 1) = (((2 : Nat) ^ n - 1 : Nat) : Int) := by
    rw [Int.natCast_sub h3]; simp
  have e2 : ((2 : Int) ^ n) = (((2 : Nat) ^ n : Nat) : Int) := by simp
  obtain ⟨k, rfl⟩ := Int.eq_ofNat_of_zero_le h0
  rw [e, u64_and_nat k _ (by omega) (by omega), Nat.and_two_pow_sub_one_eq_mod, e2]
  rfl
theorem u64_not {x : Int} (h0 : 0 ≤ x) (h : x < 18446744073709551616) : bits .xor .u64 IntKind.u64.max x = 18446744073709551615 - x := by
  obtain ⟨k, rfl⟩ := Int.eq_ofNat_of_zero_le h0
  show IntKind.u64.wrap ((BitVec.ofInt 64 18446744073709551615 ^^^ BitVec.ofInt 64 (k : Int)).toNat : Int) = _
  have e : BitVec.ofInt 64 18446744073709551615 = BitVec.allOnes 64 := by decide
  have e2 : ∀ y : BitVec 64, BitVec.allOnes 64 ^^^ y = ~~~ y := fun y => BitVec.allOnes_xor
  rw [e, e2, BitVec.toNat_not, ofInt_u64 k (by omega), IntKind.wrap_u64]
  omega
theorem u64_orTop {x : Int} (h0 : 0 ≤ x) (h : x < 9223372036854775808) : bits .or .u64 x 9223372036854775808 = x + 9223372036854775808 := by
  obtain ⟨k, rfl⟩ := Int.eq_ofNat_of_zero_le h0
  have := u64_or_nat k 9223372036854775808 (by omega) (by omega)
  rw [show ((9223372036854775808 : Nat) : Int) = 9223372036854775808 by rfl] at this
  have h2 := Nat.two_pow_add_eq_or_of_lt (i := 63) (b := k) (by omega) 1
  rw [Nat.or_comm] at this
  have h3 : (9223372036854775808 ||| k : Nat) = 9223372036854775808 + k := by simpa using h2.symm
  rw [this, h3]
  omega
theorem u64_xorTop {x : Int} (h0 : 0 ≤ x) (h : x < 18446744073709551616) : bits .xor .u64 x 9223372036854775808 = if x < 9223372036854775808 then x + 9223372036854775808 else x - 9223372036854775808 := by
  obtain ⟨k, rfl⟩ := Int.eq_ofNat_of_zero_le h0
  have h1 := u64_xor_nat k 9223372036854775808 (by omega) (by omega)
  rw [show ((9223372036854775808 : Nat) : Int) = 9223372036854775808 by rfl] at h1
  rw [h1]
  have key : (k ^^^ 9223372036854775808 : Nat) = if k < 9223372036854775808 then k + 9223372036854775808 else k - 9223372036854775808 := by
    have hk : ∀ j, j < 9223372036854775808 → (j ^^^ 9223372036854775808 : Nat) = 9223372036854775808 + j := fun j hj => by
      have h2 := Nat.two_pow_add_eq_or_of_lt (i := 63) (b := j) (by omega) 1
      have h3 : (9223372036854775808 ||| j : Nat) = 9223372036854775808 + j := by simpa using h2.symm
      rw [← h3]
      apply Nat.eq_of_testBit_eq
      intro i
      rw [Nat.testBit_xor, Nat.testBit_or, show (9223372036854775808 : Nat) = 2 ^ 63 by rfl, Nat.testBit_two_pow]
      by_cases hi : 63 = i
      · subst hi
        rw [Nat.testBit_lt_two_pow (by omega)]
        simp
      · simp [hi]
    split
    · rw [hk k ‹_›]; omega
    · rename_i hge
      have h4 := hk (k - 9223372036854775808) (by omega)
      rw [show 9223372036854775808 + (k - 9223372036854775808) = k by omega] at h4
      rw [← h4, Nat.xor_assoc, Nat.xor_self, Nat.xor_zero]
      rw [h4]
  rw [key]
  split <;> split <;> omega
theorem u64_andNotTop {x : Int} (h0 : 9223372036854775808 ≤ x) (h : x < 18446744073709551616) : bits .andNot .u64 x 9223372036854775808 = x - 9223372036854775808 := by
  obtain ⟨k, rfl⟩ := Int.eq_ofNat_of_zero_le (show 0 ≤ x by omega)
  have := u64_andNot_nat k 9223372036854775808 (by omega) (by omega)
  rw [show ((9223372036854775808 : Nat) : Int) = 9223372036854775808 by rfl] at this
  rw [this, show (18446744073709551615 - 9223372036854775808 : Nat) = 2 ^ 63 - 1 by rfl, Nat.and_two_pow_sub_one_eq_mod]
  omega
end Go.Proofs.Ytbjfgnkjmfcokaa
