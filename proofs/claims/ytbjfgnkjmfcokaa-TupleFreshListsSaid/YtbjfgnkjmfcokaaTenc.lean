/- Layer 3: the bytes of a tuple: plain laws. No program. -/
import Derived.Test.YtbjfgnkjmfcokaaTval
import Derived.Test.YtbjfgnkjmfcokaaBlk
namespace Go.Proofs.Ytbjfgnkjmfcokaa
open Go.RowKit Go.Proofs
set_option linter.unusedVariables false
/-- n bytes of a number, the highest first. -/
def bigB (x : Nat) : Nat → List UInt8
  | 0 => []
  | n + 1 => b8 ((x / 256 ^ n : Nat) : Int) :: bigB x n
theorem length_bigB (x : Nat) : ∀ n, (bigB x n).length = n
  | 0 => rfl
  | n + 1 => by simp [bigB, length_bigB x n]
/-- How many bytes a number needs. -/
def widthN (x : Nat) : Nat := if h : x = 0 then 0 else widthN (x / 256) + 1
termination_by x
decreasing_by omega
theorem widthN_zero : widthN 0 = 0 := by rw [widthN]; rfl
theorem widthN_pos {x : Nat} (h : x ≠ 0) : widthN x = widthN (x / 256) + 1 := by
  rw [widthN, dif_neg h]
theorem widthN_le : ∀ (n x : Nat), widthN x ≤ n ↔ x < 256 ^ n
  | 0, x => by
    by_cases h : x = 0
    · subst h; simp [widthN_zero]
    · rw [widthN_pos h]
      constructor
      · intro h1; omega
      · intro h1; rw [Nat.pow_zero] at h1; omega
  | n + 1, x => by
    by_cases h : x = 0
    · subst h
      simp only [widthN_zero, Nat.zero_le, true_iff]
      exact Nat.pow_pos (by omega)
    · rw [widthN_pos h, Nat.add_le_add_iff_right, widthN_le n, Nat.pow_succ, Nat.div_lt_iff_lt_mul (by omega)]
theorem widthN_8 {x : Nat} (h : x < 18446744073709551616) : widthN x ≤ 8 := (widthN_le 8 x).2 h
/-- Is it a value? -/
def validV (v : Vl) : Bool := decide (0 ≤ v.kind) && decide (v.kind ≤ 5) && (v.kind == 1 || !v.bool) && (v.kind == 2 || v.int == 0) && (v.kind == 3 || v.real == 0) && (v.kind == 4 || (v.re == 0 && v.im == 0)) && (v.kind == 5 || v.text == [])
/-- The value with the one NaN. -/
def sameV (v : Vl) : Vl := if validV v then { v with real := oneN v.real, re := oneN v.re, im := oneN v.im } else Vl.zero
/-- A text's bytes. -/
def escB : List UInt8 → List UInt8
  | [] => []
  | b :: t => if b = 0 then 0 :: 255 :: escB t else b :: escB t
theorem escB_app : ∀ a b : List UInt8, escB (a ++ b) = escB a ++ escB b
  | [], b => rfl
  | x :: a, b => by
    simp only [List.cons_append, escB]
    split <;> simp [escB_app a b]
theorem length_escB : ∀ t : List UInt8, (escB t).length ≤ 2 * t.length
  | [] => Nat.le_refl _
  | b :: t => by
    have := length_escB t
    simp only [escB]
    split <;> simp <;> omega
/-- A whole number's bytes. -/
def putI (i : Int) : List UInt8 :=
  if 0 ≤ i then b8 (32 + widthN i.toNat) :: bigB i.toNat (widthN i.toNat)
  else b8 (31 - widthN (-1 - i).toNat) :: bigB (18446744073709551615 - (-1 - i).toNat) (widthN (-1 - i).toNat)
/-- A value's bytes. -/
def putB (v : Vl) : List UInt8 :=
  if v.kind = 0 then [1]
  else if v.kind = 1 then [if v.bool then 3 else 2]
  else if v.kind = 2 then putI v.int
  else if v.kind = 4 then 56 :: bigB (rankN v.re) 8 ++ bigB (rankN v.im) 8
  else if v.kind = 3 then 48 :: bigB (rankN v.real) 8
  else 64 :: escB v.text ++ [0]
theorem length_putI {i : Int} (h : -9223372036854775808 ≤ i ∧ i ≤ 9223372036854775807) : (putI i).length ≤ 9 := by
  unfold putI
  split
  · have := widthN_8 (x := i.toNat) (by omega)
    simp [length_bigB]; omega
  · have := widthN_8 (x := (-1 - i).toNat) (by omega)
    simp [length_bigB]; omega
theorem length_putB {v : Vl} (h : v.Ok) : (putB v).length ≤ 281474976710676 := by
  have h1 := length_putI h.int
  have h2 := length_escB v.text
  have h3 := h.text
  unfold putB
  split
  · simp
  split
  · simp
  split
  · omega
  split
  · simp [length_bigB]
  split
  · simp [length_bigB]
  · simp; omega
theorem putB_pos (v : Vl) : 0 < (putB v).length := by
  unfold putB
  split
  · simp
  split
  · simp
  split
  · unfold putI; split <;> simp
  split
  · simp
  split <;> simp
/-- A tuple's bytes. -/
def encB (l : List Vl) : List UInt8 := l.flatMap putB
theorem encB_nil : encB [] = [] := rfl
theorem encB_take {l : List Vl} {k : Nat} {v : Vl} (h : l[k]? = some v) : encB (l.take (k + 1)) = encB (l.take k) ++ putB v := by
  obtain ⟨hk, rfl⟩ := List.getElem?_eq_some_iff.1 h
  unfold encB
  rw [List.take_succ_eq_append_getElem hk, List.flatMap_append, List.flatMap_cons, List.flatMap_nil, List.append_nil]
theorem encB_le (l : List Vl) (k : Nat) : (encB (l.take k)).length ≤ (encB l).length := by
  have e : encB l = encB (l.take k) ++ encB (l.drop k) := by
    unfold encB
    rw [← List.flatMap_append, List.take_append_drop]
  rw [e]
  simp
/-- Why there are no bytes; 0: there are. -/
def encE (l : List Vl) : Int := if l.all validV then (if 4096 < (encB l).length then 4 else 0) else 22
/-- The bytes that are answered. -/
def encO (l : List Vl) : List UInt8 := if encE l = 0 then encB l else []
theorem length_encO (l : List Vl) : (encO l).length ≤ 4096 := by
  unfold encO
  split
  · rename_i h
    unfold encE at h
    by_cases h1 : l.all validV = true
    · rw [if_pos h1] at h
      by_cases h2 : 4096 < (encB l).length
      · rw [if_pos h2] at h; cases h
      · omega
    · rw [if_neg h1] at h; cases h
  · simp
theorem encE_many {l : List Vl} (h : l.all validV = true) {k : Nat} (h2 : 4096 < (encB (l.take k)).length) : encE l = 4 := by
  unfold encE
  rw [if_pos h, if_pos (Nat.lt_of_lt_of_le h2 (encB_le l k))]
theorem encE_kind {l : List Vl} {k : Nat} {v : Vl} (hk : l[k]? = some v) (h : validV v = false) : encE l = 22 := by
  unfold encE
  rw [if_neg]
  intro ha
  have := List.all_eq_true.1 ha v (List.mem_of_getElem? hk)
  rw [h] at this
  cases this
theorem encE_fine {l : List Vl} (h : l.all validV = true) (h2 : (encB l).length ≤ 4096) : encE l = 0 ∧ encO l = encB l := by
  have e : encE l = 0 := by
    unfold encE
    rw [if_pos h, if_neg (by omega)]
  exact ⟨e, by unfold encO; rw [if_pos e]⟩
theorem encO_none {l : List Vl} (h : encE l ≠ 0) : encO l = [] := by
  unfold encO
  rw [if_neg h]
theorem encE_cases (l : List Vl) : encE l = 0 ∨ encE l = 4 ∨ encE l = 22 := by
  unfold encE
  split
  · split <;> simp
  · simp
theorem all_step {l : List Vl} {k : Nat} {v : Vl} (h : (l.take k).all validV = true) (hk : l[k]? = some v) (hv : validV v = true) : (l.take (k + 1)).all validV = true := by
  obtain ⟨hl, rfl⟩ := List.getElem?_eq_some_iff.1 hk
  rw [List.take_succ_eq_append_getElem hl, List.all_append, h]
  simp [hv]
end Go.Proofs.Ytbjfgnkjmfcokaa
