/- Plain laws of lists of bytes: their order, and what two of them have in common. No program. -/
import Derived.Test.YtijlaknfagpglaaWords
namespace Go.Proofs.Ytijlaknfagpglaa
/-- The order of two rows of bytes. -/
def cmpB : List UInt8 → List UInt8 → Int
  | [], [] => 0
  | [], _ :: _ => -1
  | _ :: _, [] => 1
  | a :: as, b :: bs => if a < b then -1 else if b < a then 1 else cmpB as bs
theorem cmpB_app (p x y : List UInt8) : cmpB (p ++ x) (p ++ y) = cmpB x y := by
  induction p with
  | nil => rfl
  | cons a p ih => simp [cmpB, ih]
theorem cmpB_bd (a b : List UInt8) : cmpB a b = -1 ∨ cmpB a b = 0 ∨ cmpB a b = 1 := by
  induction a generalizing b with
  | nil => cases b <;> simp [cmpB]
  | cons x a ih =>
    cases b with
    | nil => simp [cmpB]
    | cons y b =>
      simp only [cmpB]
      split
      · simp
      · split
        · simp
        · exact ih b
theorem cmpB_self (a : List UInt8) : cmpB a a = 0 := by
  induction a with
  | nil => rfl
  | cons x a ih => simp [cmpB, ih]
theorem cmpB_eq {a b : List UInt8} : cmpB a b = 0 ↔ a = b := by
  constructor
  · induction a generalizing b with
    | nil => cases b <;> simp [cmpB]
    | cons x a ih =>
      cases b with
      | nil => simp [cmpB]
      | cons y b =>
        simp only [cmpB]
        split
        · simp
        · split
          · simp
          · intro h
            have e : x = y := UInt8.le_antisymm (UInt8.not_lt.1 ‹¬ y < x›) (UInt8.not_lt.1 ‹¬ x < y›)
            rw [e, ih h]
  · rintro rfl; exact cmpB_self a
/-- The first k bytes are the same. -/
def Agree (a b : List UInt8) (k : Nat) : Prop := a.take k = b.take k
theorem Agree.zero (a b : List UInt8) : Agree a b 0 := rfl
theorem Agree.succ {a b : List UInt8} {k : Nat} (h : Agree a b k) (ha : k < a.length) (hb : k < b.length) (he : at8 a k = at8 b k) : Agree a b (k + 1) := by
  unfold Agree at *
  rw [List.take_succ_eq_append_getElem ha, List.take_succ_eq_append_getElem hb, h, (at8_eq ha hb).1 he]
theorem Agree.split {a b : List UInt8} {k : Nat} (h : Agree a b k) : cmpB a b = cmpB (a.drop k) (b.drop k) := by
  have := cmpB_app (a.take k) (a.drop k) (b.drop k)
  rw [List.take_append_drop, h, List.take_append_drop] at this
  exact this
theorem Agree.lt {a b : List UInt8} {k : Nat} (h : Agree a b k) (ha : k < a.length) (hb : k < b.length) (hl : at8 a k < at8 b k) : cmpB a b = -1 := by
  rw [h.split, List.drop_eq_getElem_cons ha, List.drop_eq_getElem_cons hb, cmpB, if_pos ((at8_lt ha hb).1 hl)]
theorem Agree.gt {a b : List UInt8} {k : Nat} (h : Agree a b k) (ha : k < a.length) (hb : k < b.length) (hl : at8 b k < at8 a k) : cmpB a b = 1 := by
  have h2 := (at8_lt hb ha).1 hl
  rw [h.split, List.drop_eq_getElem_cons ha, List.drop_eq_getElem_cons hb, cmpB, if_neg (UInt8.not_lt.2 (UInt8.le_of_lt h2)), if_pos h2]
theorem Agree.short {a b : List UInt8} (h : Agree a b a.length) (hl : a.length < b.length) : cmpB a b = -1 := by
  rw [h.split, List.drop_length, List.drop_eq_getElem_cons hl]; rfl
theorem Agree.long {a b : List UInt8} (h : Agree a b b.length) (hl : b.length < a.length) : cmpB a b = 1 := by
  rw [h.split, List.drop_length, List.drop_eq_getElem_cons hl]; rfl
theorem Agree.same {a b : List UInt8} (h : Agree a b a.length) (hl : a.length = b.length) : cmpB a b = 0 := by
  rw [h.split, List.drop_length, hl, List.drop_length]; rfl
/-- Equal rows, as a Bool. -/
def eqB (a b : List UInt8) : Bool := decide (a = b)
theorem cmpB_zero (a b : List UInt8) : (cmpB a b == 0) = eqB a b := by
  unfold eqB
  by_cases h : a = b
  · subst h; simp [cmpB_self]
  · have : cmpB a b ≠ 0 := fun e => h (cmpB_eq.1 e)
    simp [h, this]
theorem eqB_self (a : List UInt8) : eqB a a = true := by simp [eqB]
/-- How many bytes two rows have in common at their beginning. -/
def comB : List UInt8 → List UInt8 → Nat
  | a :: as, b :: bs => if a = b then comB as bs + 1 else 0
  | _, _ => 0
theorem comB_app (p x y : List UInt8) : comB (p ++ x) (p ++ y) = p.length + comB x y := by
  induction p with
  | nil => simp
  | cons a p ih => simp [comB, ih]; omega
theorem Agree.com {a b : List UInt8} {k : Nat} (h : Agree a b k) (ha : k ≤ a.length) : comB a b = k + comB (a.drop k) (b.drop k) := by
  have := comB_app (a.take k) (a.drop k) (b.drop k)
  rw [List.take_append_drop, h, List.take_append_drop] at this
  rw [this, ← h, List.length_take]
  omega
theorem Agree.com_ne {a b : List UInt8} {k : Nat} (h : Agree a b k) (ha : k < a.length) (hb : k < b.length) (hl : at8 a k ≠ at8 b k) : comB a b = k := by
  rw [h.com (by omega), List.drop_eq_getElem_cons ha, List.drop_eq_getElem_cons hb, comB, if_neg (fun e => hl ((at8_eq ha hb).2 e))]
  rfl
theorem Agree.com_end {a b : List UInt8} {k : Nat} (h : Agree a b k) (ha : k ≤ a.length) (he : k = a.length ∨ k = b.length) : comB a b = k := by
  rw [h.com ha]
  rcases he with rfl | rfl
  · rw [List.drop_length]; simp [comB]
  · rw [List.drop_length (l := b)]; cases a.drop b.length <;> simp [comB]
end Go.Proofs.Ytijlaknfagpglaa
