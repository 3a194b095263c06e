/- Layer 3: the tuple of bytes: plain laws. No program. -/
import Derived.Test.YtbjfgnkjmfcokaaTenc
namespace Go.Proofs.Ytbjfgnkjmfcokaa
open Go.RowKit Go.Proofs
set_option linter.unusedVariables false
/-- The number that bytes are, the highest first. -/
def bN : List UInt8 → Nat
  | [] => 0
  | c :: t => c.toNat * 256 ^ t.length + bN t
theorem bN_lt : ∀ b : List UInt8, bN b < 256 ^ b.length
  | [] => by simp [bN]
  | c :: t => by
    have h := bN_lt t
    have hc := c.toNat_lt
    simp only [bN, List.length_cons, Nat.pow_succ]
    have : c.toNat * 256 ^ t.length ≤ 255 * 256 ^ t.length := Nat.mul_le_mul_right _ (by omega)
    omega
theorem bN_lt8 {b : List UInt8} (h : b.length ≤ 8) : bN b < 18446744073709551616 :=
  Nat.lt_of_lt_of_le (bN_lt b) (Nat.pow_le_pow_right (n := 256) (by omega) h)
/-- As the code gathers them, in 64 bits. -/
def gath (x : Nat) (c : UInt8) : Nat := x * 256 % 18446744073709551616 + c.toNat
theorem gath_lt (x : Nat) (c : UInt8) : gath x c < 18446744073709551616 := by
  have := c.toNat_lt
  unfold gath
  omega
theorem gath_all : ∀ (b : List UInt8) (x : Nat), x < 18446744073709551616 → b.foldl gath x = (x * 256 ^ b.length + bN b) % 18446744073709551616
  | [], x, hx => by simp [bN]; omega
  | c :: t, x, hx => by
    rw [List.foldl_cons, gath_all t _ (gath_lt x c)]
    simp only [gath, bN, List.length_cons, Nat.pow_succ]
    have e : (x * 256 % 18446744073709551616 + c.toNat) % 18446744073709551616 = (x * 256 + c.toNat) % 18446744073709551616 := by omega
    have e2 : ((x * 256 % 18446744073709551616 + c.toNat) * 256 ^ t.length + bN t) % 18446744073709551616 = ((x * 256 + c.toNat) * 256 ^ t.length + bN t) % 18446744073709551616 := by
      rw [Nat.add_mod, Nat.mul_mod, e, ← Nat.mul_mod, ← Nat.add_mod]
    rw [e2]
    congr 1
    rw [Nat.add_mul, Nat.mul_comm (256 ^ t.length) 256, ← Nat.mul_assoc]
    omega
theorem gath_zero {b : List UInt8} (h : b.length ≤ 8) : b.foldl gath 0 = bN b := by
  rw [gath_all b 0 (by omega), Nat.zero_mul, Nat.zero_add, Nat.mod_eq_of_lt (bN_lt8 h)]
theorem pow_256_8 : (256 : Nat) ^ 8 = 18446744073709551616 := by decide
theorem pow256_dvd {n : Nat} (h : n ≤ 8) : ∃ k, 18446744073709551616 = k * 256 ^ n := by
  refine ⟨256 ^ (8 - n), ?_⟩
  rw [← Nat.pow_add, show 8 - n + n = 8 by omega, pow_256_8]
theorem gath_below {b : List UInt8} (h : b.length ≤ 8) : b.foldl gath 18446744073709551615 = 18446744073709551616 - 256 ^ b.length + bN b := by
  rw [gath_all b _ (by omega)]
  have h1 := bN_lt b
  have h2 : 256 ^ b.length ≤ 18446744073709551616 := by rw [← pow_256_8]; exact Nat.pow_le_pow_right (by omega) h
  generalize 256 ^ b.length = p at *
  have e : 18446744073709551615 * p + bN b = (18446744073709551616 - p + bN b) + (p - 1) * 18446744073709551616 := by
    rw [Nat.sub_mul]
    have : p ≤ p * 18446744073709551616 := Nat.le_mul_of_pos_right _ (by omega)
    omega
  rw [e, Nat.add_mul_mod_self_right, Nat.mod_eq_of_lt (by omega)]
theorem bigB_bN : ∀ (b : List UInt8) (k : Nat), bigB (k * 256 ^ b.length + bN b) b.length = b
  | [], k => rfl
  | c :: t, k => by
    have h := bN_lt t
    have hp : 0 < 256 ^ t.length := Nat.pow_pos (by omega)
    have e : k * 256 ^ (t.length + 1) + (c.toNat * 256 ^ t.length + bN t) = (k * 256 + c.toNat) * 256 ^ t.length + bN t := by
      rw [Nat.add_mul, Nat.pow_succ, Nat.mul_comm (256 ^ t.length) 256, ← Nat.mul_assoc]
      omega
    simp only [bN, List.length_cons, bigB]
    rw [e, bigB_bN t]
    congr 1
    rw [Nat.mul_comm, Nat.mul_add_div hp, Nat.div_eq_of_lt h]
    apply UInt8.toNat_inj.1
    have h1 := b8_toNat (((k * 256 + c.toNat + 0 : Nat)) : Int)
    have := c.toNat_lt
    omega
theorem bN_bigB : ∀ (n x : Nat), bN (bigB x n) = x % 256 ^ n
  | 0, x => by simp [bigB, bN]; omega
  | n + 1, x => by
    simp only [bigB, bN, length_bigB]
    rw [bN_bigB n x]
    have h1 := b8_toNat (((x / 256 ^ n : Nat)) : Int)
    have h2 : (b8 (((x / 256 ^ n : Nat)) : Int)).toNat = x / 256 ^ n % 256 := by omega
    rw [h2, Nat.pow_succ, Nat.mod_mul, Nat.mul_comm (256 ^ n) (x / 256 ^ n % 256)]
    omega
theorem bigB_inj {n x y : Nat} (hx : x < 256 ^ n) (hy : y < 256 ^ n) (h : bigB x n = bigB y n) : x = y := by
  have := congrArg bN h
  rwa [bN_bigB, bN_bigB, Nat.mod_eq_of_lt hx, Nat.mod_eq_of_lt hy] at this
/-- How long a text is with its last byte; one more than there is, if it is cut off. -/
def txtL : List UInt8 → Nat
  | [] => 1
  | x :: t => if x = 0 then (match t with
    | y :: r => if y = 255 then 2 + txtL r else 1
    | [] => 1) else 1 + txtL t
/-- The text that stands there. -/
def unT : List UInt8 → List UInt8
  | [] => []
  | x :: t => if x = 0 then (match t with
    | y :: r => if y = 255 then 0 :: unT r else []
    | [] => []) else x :: unT t
theorem txtL_pos (b : List UInt8) : 0 < txtL b := by
  match b with
  | [] => simp [txtL]
  | x :: [] => simp only [txtL]; split <;> omega
  | x :: y :: t => simp only [txtL]; split <;> (try split) <;> omega
theorem txtL_le : ∀ b : List UInt8, txtL b ≤ b.length + 1
  | [] => by simp [txtL]
  | x :: [] => by simp only [txtL]; split <;> simp
  | x :: y :: t => by
    have h1 := txtL_le t
    have h2 := txtL_le (y :: t)
    simp only [List.length_cons] at h2 ⊢
    simp only [txtL] at h2 ⊢
    split
    · split <;> omega
    · omega
theorem txt_take : ∀ b : List UInt8, txtL b ≤ b.length → b.take (txtL b) = escB (unT b) ++ [0]
  | [], h => by simp [txtL] at h
  | x :: [], h => by
    simp only [txtL, unT] at h ⊢
    split
    · rename_i e; subst e; rfl
    · rename_i e; rw [if_neg e] at h; simp at h
  | x :: y :: t, h => by
    have h1 := txt_take t
    have h2 := txt_take (y :: t)
    simp only [List.length_cons] at h h2
    rw [txtL] at h ⊢
    rw [unT]
    by_cases e : x = 0
    · subst e
      simp only [if_true] at h ⊢
      by_cases e2 : y = 255
      · subst e2
        simp only [if_true] at h ⊢
        rw [show 2 + txtL t = txtL t + 1 + 1 by omega, List.take_succ_cons, List.take_succ_cons, h1 (by omega)]
        simp [escB]
      · simp only [if_neg e2] at h ⊢
        rfl
    · simp only [if_neg e] at h ⊢
      rw [Nat.add_comm, List.take_succ_cons, h2 (by omega)]
      simp [escB, e]
theorem txt_esc : ∀ (s r : List UInt8), r.head? ≠ some 255 → txtL (escB s ++ 0 :: r) = (escB s).length + 1 ∧ unT (escB s ++ 0 :: r) = s
  | [], r, h => by
    cases r with
    | nil => simp [escB, txtL, unT]
    | cons y r =>
      have h2 : ¬ y = 255 := fun e => h (by simp [e])
      simp [escB, txtL, unT, h2]
  | x :: s, r, h => by
    obtain ⟨h1, h2⟩ := txt_esc s r h
    by_cases e : x = 0
    · subst e
      simp [escB, txtL, unT, h1, h2]
      omega
    · have e1 : ∀ t, txtL (x :: t) = 1 + txtL t := fun t => by
        cases t <;> simp [txtL, e]
      have e2 : ∀ t, unT (x :: t) = x :: unT t := fun t => by
        cases t <;> simp [unT, e]
      rw [show escB (x :: s) = x :: escB s by simp [escB, e], List.cons_append, e1, e2, h1, h2]
      simp
      omega
/-- How many bytes the value at the head has; 0: no value begins so. -/
def lenB : List UInt8 → Nat
  | [] => 0
  | c :: r => let t := c.toNat
    if 1 ≤ t ∧ t ≤ 3 then 1 else if 23 ≤ t ∧ t ≤ 31 then 32 - t else if 32 ≤ t ∧ t ≤ 40 then t - 31 else if t = 48 then 9 else if t = 56 then 17 else if t = 64 then 1 + txtL r else 0
/-- The value of whole bytes, be they as they are laid or not. -/
def valB : List UInt8 → Vl
  | [] => Vl.zero
  | c :: r => let t := c.toNat
    if t = 1 then Vl.zero
    else if t ≤ 3 then { Vl.zero with kind := 1, bool := decide (t = 3) }
    else if t ≤ 40 then { Vl.zero with kind := 2, int := (let x : Int := ((r.foldl gath (if t < 32 then 18446744073709551615 else 0) : Nat) : Int); if x < 9223372036854775808 then x else x - 18446744073709551616) }
    else if t = 48 then { Vl.zero with kind := 3, real := unrankN (bN (r.take 8)) }
    else if t = 56 then { Vl.zero with kind := 4, re := unrankN (bN (r.take 8)), im := unrankN (bN ((r.drop 8).take 8)) }
    else { Vl.zero with kind := 5, text := unT r }
/-- What is wrong with the value at the head. -/
def getE (b : List UInt8) : Int := if lenB b = 0 then 5 else if b.length < lenB b then 2 else if putB (valB (b.take (lenB b))) = b.take (lenB b) then 0 else 5
def getV (b : List UInt8) : Vl := valB (b.take (lenB b))
/-- The tuple that bytes are, and what is wrong with them. -/
def decL (b : List UInt8) : List Vl × Int :=
  if h : b = [] then ([], 0)
  else if hg : getE b = 0 then
    let r := decL (b.drop (lenB b))
    (if r.2 = 0 then getV b :: r.1 else [], r.2)
  else ([], getE b)
termination_by b.length
decreasing_by
  have h1 : b.length ≠ 0 := fun e => h (List.eq_nil_of_length_eq_zero e)
  have h2 : lenB b ≠ 0 := by
    intro e
    unfold getE at hg
    rw [if_pos e] at hg
    cases hg
  rw [List.length_drop]
  omega
/-- What has been gathered, and the rest. -/
def Gath (b : List UInt8) (done : List Vl) (rest : List UInt8) : Prop := decL b = (if (decL rest).2 = 0 then done ++ (decL rest).1 else [], (decL rest).2)
theorem decL_err {b : List UInt8} (h : (decL b).2 ≠ 0) : (decL b).1 = [] := by
  rw [decL] at h ⊢
  split
  · rfl
  · split
    · rename_i h1 h2
      rw [dif_neg h1, dif_pos h2] at h
      simp only at h ⊢
      rw [if_neg h]
    · rfl
theorem Gath.zero (b : List UInt8) : Gath b [] b := by
  unfold Gath
  by_cases h : (decL b).2 = 0
  · rw [if_pos h]; rfl
  · rw [if_neg h, ← decL_err h]
theorem Gath.step {b rest : List UInt8} {done : List Vl} (h : Gath b done rest) (hne : rest ≠ []) (hg : getE rest = 0) : Gath b (done ++ [getV rest]) (rest.drop (lenB rest)) := by
  have e : decL rest = (if (decL (rest.drop (lenB rest))).2 = 0 then getV rest :: (decL (rest.drop (lenB rest))).1 else [], (decL (rest.drop (lenB rest))).2) := by
    rw [decL, dif_neg hne, dif_pos hg]
  unfold Gath at *
  rw [h, e]
  simp only
  split <;> simp
theorem Gath.fail {b rest : List UInt8} {done : List Vl} (h : Gath b done rest) (hne : rest ≠ []) (hg : getE rest ≠ 0) : decL b = ([], getE rest) := by
  have e : decL rest = ([], getE rest) := by
    rw [decL, dif_neg hne, dif_neg hg]
  unfold Gath at h
  rw [h, e]
  simp only
  rw [if_neg hg]
theorem Gath.done {b : List UInt8} {done : List Vl} (h : Gath b done []) : decL b = (done, 0) := by
  have e : decL [] = ([], 0) := by rw [decL]; rfl
  unfold Gath at h
  rw [h, e]
  simp
theorem lenB_pos {b : List UInt8} (h : getE b = 0) : 0 < lenB b ∧ lenB b ≤ b.length := by
  unfold getE at h
  split at h
  · cases h
  · split at h
    · cases h
    · omega
/-- Decode's answer. -/
def decE (b : List UInt8) : Int := if 4096 < b.length then 4 else (decL b).2
def decO (b : List UInt8) : List Vl := if 4096 < b.length then [] else (decL b).1
end Go.Proofs.Ytbjfgnkjmfcokaa
