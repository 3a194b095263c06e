/- Plain laws of keys: their order, the next key, the shortest key between, ranges of keys. No program. -/
import Derived.Test.YtijlaknfagpglaaLists
namespace Go.Proofs.Ytijlaknfagpglaa
theorem cmpB_swap (a b : List UInt8) : cmpB b a = -cmpB a b := by
  induction a generalizing b with
  | nil => cases b <;> simp [cmpB]
  | cons x a ih =>
    cases b with
    | nil => simp [cmpB]
    | cons y b =>
      simp only [cmpB]
      by_cases h1 : x < y
      · simp [h1, UInt8.not_lt.2 (UInt8.le_of_lt h1)]
      · by_cases h2 : y < x
        · simp [h1, h2]
        · simp [h1, h2, ih]
theorem cmpB_lt_trans {a b c : List UInt8} (h : cmpB a b = -1) (k : cmpB b c = -1) : cmpB a c = -1 := by
  induction a generalizing b c with
  | nil =>
    cases b with
    | nil => simp [cmpB] at h
    | cons y b =>
      cases c with
      | nil => simp [cmpB] at k
      | cons z c => rfl
  | cons x a ih =>
    cases b with
    | nil => simp [cmpB] at h
    | cons y b =>
      cases c with
      | nil => simp [cmpB] at k
      | cons z c =>
        simp only [cmpB] at h k ⊢
        by_cases hxy : x < y
        · by_cases hyz : y < z
          · rw [if_pos (UInt8.lt_trans hxy hyz)]
          · by_cases hzy : z < y
            · simp [hyz, hzy] at k
            · have : y = z := UInt8.le_antisymm (UInt8.not_lt.1 hzy) (UInt8.not_lt.1 hyz)
              subst this
              rw [if_pos hxy]
        · by_cases hyx : y < x
          · simp [hxy, hyx] at h
          · have : x = y := UInt8.le_antisymm (UInt8.not_lt.1 hyx) (UInt8.not_lt.1 hxy)
            subst this
            simp only [UInt8.lt_irrefl, if_false] at h
            by_cases hyz : x < z
            · rw [if_pos hyz]
            · by_cases hzy : z < x
              · simp [hyz, hzy] at k
              · simp only [hyz, hzy, if_false] at k ⊢
                exact ih h k
/-- a is not above b. -/
def LeB (a b : List UInt8) : Prop := cmpB a b ≤ 0
def LtB (a b : List UInt8) : Prop := cmpB a b < 0
instance (a b : List UInt8) : Decidable (LeB a b) := by unfold LeB; infer_instance
instance (a b : List UInt8) : Decidable (LtB a b) := by unfold LtB; infer_instance
theorem LtB.eq {a b : List UInt8} (h : LtB a b) : cmpB a b = -1 := by have := cmpB_bd a b; unfold LtB at h; omega
theorem LtB.of {a b : List UInt8} (h : cmpB a b = -1) : LtB a b := by unfold LtB; omega
theorem LeB.or {a b : List UInt8} (h : LeB a b) : LtB a b ∨ a = b := by
  unfold LeB at h
  by_cases e : cmpB a b = 0
  · exact .inr (cmpB_eq.1 e)
  · exact .inl (by unfold LtB; omega)
theorem LtB.le {a b : List UInt8} (h : LtB a b) : LeB a b := by unfold LtB at h; unfold LeB; omega
theorem LeB.refl (a : List UInt8) : LeB a a := by unfold LeB; rw [cmpB_self]; exact Int.le_refl 0
theorem LtB.trans {a b c : List UInt8} (h : LtB a b) (k : LtB b c) : LtB a c := .of (cmpB_lt_trans h.eq k.eq)
theorem LtB.trans_le {a b c : List UInt8} (h : LtB a b) (k : LeB b c) : LtB a c := by
  rcases k.or with k | rfl
  · exact h.trans k
  · exact h
theorem LeB.trans_lt {a b c : List UInt8} (h : LeB a b) (k : LtB b c) : LtB a c := by
  rcases h.or with h | rfl
  · exact h.trans k
  · exact k
theorem LeB.trans {a b c : List UInt8} (h : LeB a b) (k : LeB b c) : LeB a c := by
  rcases h.or with h | rfl
  · exact (h.trans_le k).le
  · exact k
theorem LeB.not {a b : List UInt8} : ¬ LeB a b ↔ LtB b a := by
  unfold LeB LtB
  rw [cmpB_swap a b]
  omega
theorem LtB.not {a b : List UInt8} : ¬ LtB a b ↔ LeB b a := by
  unfold LeB LtB
  rw [cmpB_swap a b]
  omega
theorem LtB.irrefl (a : List UInt8) : ¬ LtB a a := by unfold LtB; rw [cmpB_self]; omega
theorem LeB.antisymm {a b : List UInt8} (h : LeB a b) (k : LeB b a) : a = b := by
  rcases h.or with h | h
  · exact absurd k (LeB.not.2 h)
  · exact h
theorem ge_iff {a b : List UInt8} : 0 ≤ cmpB a b ↔ LeB b a := by unfold LeB; rw [cmpB_swap a b]; omega
theorem gt_iff {a b : List UInt8} : 0 < cmpB a b ↔ LtB b a := by unfold LtB; rw [cmpB_swap a b]; omega
theorem le_iff {a b : List UInt8} : cmpB a b ≤ 0 ↔ LeB a b := Iff.rfl
theorem lt_iff {a b : List UInt8} : cmpB a b < 0 ↔ LtB a b := Iff.rfl
theorem LeB.nil (a : List UInt8) : LeB [] a := by unfold LeB; cases a <;> simp [cmpB]
theorem LtB.nil_cons (x : UInt8) (a : List UInt8) : LtB [] (x :: a) := by unfold LtB; simp [cmpB]
theorem LtB.cons {x y : UInt8} {a b : List UInt8} : LtB (x :: a) (y :: b) ↔ x < y ∨ (x = y ∧ LtB a b) := by
  unfold LtB
  simp only [cmpB]
  by_cases h1 : x < y
  · simp [h1]
  · by_cases h2 : y < x
    · have : x ≠ y := fun e => by subst e; exact UInt8.lt_irrefl _ h2
      simp [h1, h2, this]
    · have : x = y := UInt8.le_antisymm (UInt8.not_lt.1 h2) (UInt8.not_lt.1 h1)
      simp [this]
theorem LeB.cons {x y : UInt8} {a b : List UInt8} : LeB (x :: a) (y :: b) ↔ x < y ∨ (x = y ∧ LeB a b) := by
  unfold LeB
  simp only [cmpB]
  by_cases h1 : x < y
  · simp [h1]
  · by_cases h2 : y < x
    · have : x ≠ y := fun e => by subst e; exact UInt8.lt_irrefl _ h2
      simp [h1, h2, this]
    · have : x = y := UInt8.le_antisymm (UInt8.not_lt.1 h2) (UInt8.not_lt.1 h1)
      simp [this]
theorem LtB.not_nil {a : List UInt8} : ¬ LtB a [] := LtB.not.2 (LeB.nil a)
theorem LeB.nil_iff {a : List UInt8} : LeB a [] ↔ a = [] := by
  constructor
  · intro h; exact (h.antisymm (LeB.nil a))
  · rintro rfl; exact LeB.refl _
theorem LtB.app {p a b : List UInt8} : LtB (p ++ a) (p ++ b) ↔ LtB a b := by unfold LtB; rw [cmpB_app]
theorem LeB.app {p a b : List UInt8} : LeB (p ++ a) (p ++ b) ↔ LeB a b := by unfold LeB; rw [cmpB_app]
theorem LeB.pre (p t : List UInt8) : LeB p (p ++ t) := by
  have := (LeB.app (p := p) (a := []) (b := t)).2 (LeB.nil t)
  simpa using this
/-! ### The next key -/
theorem lt_succ (x : UInt8) (h : x ≠ 255) : x < x + 1 := by
  have h2 := x.toNat_lt
  have h3 : x.toNat ≠ 255 := fun e => h (UInt8.toNat_inj.1 e)
  rw [UInt8.lt_iff_toNat_lt, UInt8.toNat_add]
  show x.toNat < (x.toNat + 1) % 256
  omega
theorem succ_le {x y : UInt8} (h : x < y) : x + 1 ≤ y := by
  have h2 := y.toNat_lt
  rw [UInt8.lt_iff_toNat_lt] at h
  rw [UInt8.le_iff_toNat_le, UInt8.toNat_add]
  show (x.toNat + 1) % 256 ≤ y.toNat
  omega
theorem ne_255 {x y : UInt8} (h : x < y) : x ≠ 255 := by
  rintro rfl
  have h2 := y.toNat_lt
  rw [UInt8.lt_iff_toNat_lt] at h
  have : (255 : UInt8).toNat = 255 := rfl
  omega
/-- A row whose last byte that is not FF is greater by 1, and nothing behind it; no bytes, where there is none but FF. -/
def upB : List UInt8 → List UInt8
  | [] => []
  | a :: p => match upB p with
    | [] => if a = 255 then [] else [a + 1]
    | u :: us => a :: u :: us
theorem upB_app (p : List UInt8) (n : Nat) : upB (p ++ List.replicate n 255) = upB p := by
  induction p with
  | nil =>
    induction n with
    | zero => rfl
    | succ n ih => rw [List.nil_append] at ih ⊢; rw [List.replicate_succ]; simp only [upB]; rw [ih]; rfl
  | cons a p ih => rw [List.cons_append]; simp only [upB]; rw [ih]
theorem upB_snoc (p : List UInt8) (x : UInt8) (h : x ≠ 255) : upB (p ++ [x]) = p ++ [x + 1] := by
  induction p with
  | nil => simp [upB, h]
  | cons a p ih =>
    rw [List.cons_append]
    simp only [upB]
    rw [ih]
    cases p with
    | nil => rfl
    | cons b p => rfl
theorem upB_gt {p : List UInt8} (h : upB p ≠ []) (t : List UInt8) : LtB (p ++ t) (upB p) := by
  induction p with
  | nil => exact absurd rfl h
  | cons a p ih =>
    simp only [upB] at h ⊢
    cases hu : upB p with
    | nil =>
      simp only [hu] at h ⊢
      by_cases ha : a = 255
      · simp [ha] at h
      · rw [if_neg ha]
        exact LtB.cons.2 (.inl (lt_succ a ha))
    | cons u us =>
      have h2 := ih (by rw [hu]; simp)
      rw [hu] at h2
      exact LtB.cons.2 (.inr ⟨rfl, h2⟩)
theorem upB_le {p x : List UInt8} (h : LtB p x) (hl : x.length ≤ p.length) : upB p ≠ [] ∧ LeB (upB p) x := by
  induction p generalizing x with
  | nil =>
    have : x = [] := List.eq_nil_of_length_eq_zero (by simpa using hl)
    subst this
    exact absurd h (LtB.irrefl _)
  | cons a p ih =>
    cases x with
    | nil => exact absurd h LtB.not_nil
    | cons b x =>
      simp only [upB]
      rcases LtB.cons.1 h with hab | ⟨rfl, hpx⟩
      · cases hu : upB p with
        | nil =>
          rw [if_neg (ne_255 hab)]
          refine ⟨by simp, ?_⟩
          have hs := succ_le hab
          rw [LeB.cons]
          by_cases e : a + 1 = b
          · exact .inr ⟨e, LeB.nil _⟩
          · exact .inl (UInt8.lt_of_le_of_ne hs e)
        | cons u us => exact ⟨by simp, LeB.cons.2 (.inl hab)⟩
      · obtain ⟨hn, hle⟩ := ih hpx (by simpa using hl)
        cases hu : upB p with
        | nil => exact absurd hu hn
        | cons u us => rw [hu] at hle; exact ⟨by simp, LeB.cons.2 (.inr ⟨rfl, hle⟩)⟩
theorem upB_length (p : List UInt8) : (upB p).length ≤ p.length := by
  induction p with
  | nil => simp [upB]
  | cons a p ih =>
    simp only [upB]
    cases hu : upB p with
    | nil => simp only []; split <;> simp
    | cons u us => rw [hu] at ih; simpa using ih
/-- p is the beginning of x just where x lies from p on and below upB p. -/
theorem pre_iff (p x : List UInt8) : (LeB p x ∧ (upB p = [] ∨ LtB x (upB p))) ↔ p <+: x := by
  constructor
  · induction p generalizing x with
    | nil => intro _; exact List.nil_prefix
    | cons a p ih =>
      rintro ⟨h1, h2⟩
      cases x with
      | nil => exact absurd (LeB.nil_iff.1 h1) (by simp)
      | cons b x =>
        simp only [upB] at h2
        rcases LeB.cons.1 h1 with hab | ⟨rfl, hle⟩
        · exfalso
          cases hu : upB p with
          | nil =>
            simp only [hu, if_neg (ne_255 hab)] at h2
            rcases h2 with h2 | h2
            · simp at h2
            · rcases LtB.cons.1 h2 with h3 | ⟨_, h3⟩
              · have := succ_le hab
                exact absurd h3 (UInt8.not_lt.2 this)
              · exact absurd h3 LtB.not_nil
          | cons u us =>
            simp only [hu] at h2
            rcases h2 with h2 | h2
            · simp at h2
            · rcases LtB.cons.1 h2 with h3 | ⟨rfl, _⟩
              · exact absurd h3 (UInt8.not_lt.2 (UInt8.le_of_lt hab))
              · exact absurd hab (UInt8.lt_irrefl _)
        · refine (List.cons_prefix_cons).2 ⟨rfl, ih x ⟨hle, ?_⟩⟩
          cases hu : upB p with
          | nil => exact .inl rfl
          | cons u us =>
            simp only [hu] at h2
            rcases h2 with h2 | h2
            · simp at h2
            · rcases LtB.cons.1 h2 with h3 | ⟨_, h3⟩
              · exact absurd h3 (UInt8.lt_irrefl _)
              · exact .inr h3
  · rintro ⟨t, rfl⟩
    refine ⟨LeB.pre p t, ?_⟩
    by_cases h : upB p = []
    · exact .inl h
    · exact .inr (upB_gt h t)
theorem comB_pre (p x : List UInt8) : comB p x = p.length ↔ p <+: x := by
  induction p generalizing x with
  | nil => simp [comB]
  | cons a p ih =>
    cases x with
    | nil => simp [comB]
    | cons b x =>
      simp only [comB]
      by_cases h : a = b
      · subst h
        simp [ih, List.cons_prefix_cons]
      · simp [h, List.cons_prefix_cons]
def isKeyB (k : List UInt8) : Bool := decide (1 ≤ k.length) && decide (k.length ≤ 24)
theorem isKeyB_iff {k : List UInt8} : isKeyB k = true ↔ 1 ≤ k.length ∧ k.length ≤ 24 := by simp [isKeyB]
def nextB (k : List UInt8) : List UInt8 := if k.length < 24 then k ++ [0] else upB (k.take 24)
theorem nextB_length (k : List UInt8) : (nextB k).length ≤ 24 := by
  unfold nextB
  split
  · simp; omega
  · exact Nat.le_trans (upB_length _) (by simp; omega)
theorem nextB_gt (k : List UInt8) (h : nextB k ≠ []) : LtB k (nextB k) := by
  unfold nextB at *
  split at h
  · rename_i hk
    rw [if_pos hk]
    have := (LtB.app (p := k) (a := []) (b := [0])).2 (LtB.nil_cons _ _)
    simpa using this
  · rename_i hk
    rw [if_neg hk]
    have := upB_gt h (k.drop 24)
    rwa [List.take_append_drop] at this
theorem nextB_least (k x : List UInt8) (hx : x.length ≤ 24) (h : LtB k x) : nextB k ≠ [] ∧ LeB (nextB k) x := by
  unfold nextB
  split
  · refine ⟨by simp, ?_⟩
    rename_i hk
    clear hk hx
    induction k generalizing x with
    | nil =>
      cases x with
      | nil => exact absurd h (LtB.irrefl _)
      | cons b x =>
        rw [List.nil_append, LeB.cons]
        by_cases e : 0 = b
        · exact .inr ⟨e, LeB.nil _⟩
        · refine .inl (UInt8.lt_of_le_of_ne ?_ e)
          rw [UInt8.le_iff_toNat_le]; exact Nat.zero_le _
    | cons a k ih =>
      cases x with
      | nil => exact absurd h LtB.not_nil
      | cons b x =>
        rw [List.cons_append, LeB.cons]
        rcases LtB.cons.1 h with hab | ⟨rfl, hlt⟩
        · exact .inl hab
        · exact .inr ⟨rfl, ih x hlt⟩
  · rename_i hk
    refine upB_le ?_ (by simp; omega)
    have h1 : LeB (k.take 24) k := by
      have := LeB.pre (k.take 24) (k.drop 24)
      rwa [List.take_append_drop] at this
    exact h1.trans_lt h
def fromB (k : List UInt8) : List UInt8 := if isKeyB k then k else nextB k
theorem fromB_length (k : List UInt8) : (fromB k).length ≤ 24 := by
  unfold fromB
  split
  · rename_i h; exact (isKeyB_iff.1 h).2
  · exact nextB_length k
theorem fromB_le (k : List UInt8) (h : fromB k ≠ []) : LeB k (fromB k) := by
  unfold fromB at *
  split at h
  · rename_i hk; rw [if_pos hk]; exact LeB.refl k
  · rename_i hk; rw [if_neg hk]; exact (nextB_gt k h).le
/-- Of keys: which lie from k on. -/
theorem fromB_iff (k x : List UInt8) (hx : isKeyB x = true) : LeB k x ↔ fromB k ≠ [] ∧ LeB (fromB k) x := by
  have hx2 := isKeyB_iff.1 hx
  constructor
  · intro h
    by_cases hk : isKeyB k = true
    · have e : fromB k = k := by unfold fromB; rw [if_pos hk]
      rw [e]
      refine ⟨?_, h⟩
      have := (isKeyB_iff.1 hk).1
      intro e2
      rw [e2] at this
      simp at this
    · have e : fromB k = nextB k := by unfold fromB; rw [if_neg hk]
      rw [e]
      refine nextB_least k x hx2.2 ?_
      rcases h.or with h | h
      · exact h
      · exact absurd (h ▸ hx) hk
  · rintro ⟨h1, h2⟩
    exact (fromB_le k h1).trans h2
/-! ### Ranges -/
structure Rg where
  lo : List UInt8
  hi : List UInt8
  op : Bool
  deriving DecidableEq
def hasB (r : Rg) (k : List UInt8) : Bool := isKeyB k && decide (LeB r.lo k) && (r.op || decide (LtB k r.hi))
theorem hasB_iff (r : Rg) (k : List UInt8) : hasB r k = true ↔ isKeyB k = true ∧ LeB r.lo k ∧ (r.op = true ∨ LtB k r.hi) := by
  simp [hasB, and_assoc]
def emptyB (r : Rg) : Bool := !hasB r (fromB r.lo)
def formB (r : Rg) : Option Rg :=
  if hasB r (fromB r.lo) then some (if r.op then ⟨fromB r.lo, [], true⟩ else ⟨fromB r.lo, fromB r.hi, decide (fromB r.hi = [])⟩) else none
def equalB (a b : Rg) : Bool := decide (formB a = formB b)
theorem has_from (r : Rg) (x : List UInt8) (h : hasB r x = true) : hasB r (fromB r.lo) = true := by
  rw [hasB_iff] at *
  obtain ⟨h1, h2, h3⟩ := h
  obtain ⟨h4, h5⟩ := (fromB_iff r.lo x h1).1 h2
  refine ⟨isKeyB_iff.2 ⟨?_, fromB_length _⟩, fromB_le _ h4, ?_⟩
  · have := List.length_pos_iff.2 h4
    omega
  · rcases h3 with h3 | h3
    · exact .inl h3
    · exact .inr (h5.trans_lt h3)
theorem has_form (r : Rg) (x : List UInt8) (hx : isKeyB x = true) : hasB r x = match formB r with
    | some f => decide (LeB f.lo x) && (f.op || decide (LtB x f.hi))
    | none => false := by
  unfold formB
  by_cases hr : hasB r (fromB r.lo) = true
  · rw [if_pos hr]
    have hne : fromB r.lo ≠ [] := fun e => by
      have := (isKeyB_iff.1 ((hasB_iff _ _).1 hr).1).1
      rw [e] at this
      simp at this
    have e1 : decide (LeB r.lo x) = decide (LeB (fromB r.lo) x) := by
      rw [decide_eq_decide, fromB_iff r.lo x hx]
      simp [hne]
    have e2 : decide (LtB x r.hi) = (decide (fromB r.hi = []) || decide (LtB x (fromB r.hi))) := by
      rw [Bool.eq_iff_iff]
      simp only [decide_eq_true_eq, Bool.or_eq_true]
      rw [← LeB.not, ← LeB.not, fromB_iff r.hi x hx]
      by_cases h : fromB r.hi = [] <;> simp [h]
    unfold hasB
    rw [hx, e1]
    cases hop : r.op with
    | true => simp
    | false => simp [e2]
  · rw [if_neg hr]
    cases h : hasB r x with
    | false => rfl
    | true => exact absurd (has_from r x h) hr
theorem equal_has (a b : Rg) (x : List UInt8) (h : equalB a b = true) : hasB a x = hasB b x := by
  have he : formB a = formB b := of_decide_eq_true h
  by_cases hx : isKeyB x = true
  · rw [has_form a x hx, has_form b x hx, he]
  · simp [hasB, hx]
theorem empty_has (a : Rg) (x : List UInt8) (h : hasB a x = true) : emptyB a = false := by
  unfold emptyB
  rw [has_from a x h]
  rfl
def maxB (a b : List UInt8) : List UInt8 := if cmpB a b < 0 then b else a
def minB (a b : List UInt8) : List UInt8 := if 0 < cmpB a b then b else a
theorem maxB_iff (a b x : List UInt8) : LeB (maxB a b) x ↔ LeB a x ∧ LeB b x := by
  unfold maxB
  split
  · rename_i h
    exact ⟨fun k => ⟨(LtB.le h).trans k, k⟩, fun k => k.2⟩
  · rename_i h
    have := LtB.not.1 h
    exact ⟨fun k => ⟨k, this.trans k⟩, fun k => k.1⟩
theorem minB_iff (a b x : List UInt8) : LtB x (minB a b) ↔ LtB x a ∧ LtB x b := by
  unfold minB
  split
  · rename_i h
    have := gt_iff.1 h
    exact ⟨fun k => ⟨k.trans this, k⟩, fun k => k.2⟩
  · rename_i h
    have : LeB a b := by unfold LeB; omega
    exact ⟨fun k => ⟨k, k.trans_le this⟩, fun k => k.1⟩
def meetB (a b : Rg) : Rg := ⟨maxB a.lo b.lo, if a.op && b.op then [] else if a.op then b.hi else if b.op then a.hi else minB a.hi b.hi, a.op && b.op⟩
theorem has_meet (a b : Rg) (x : List UInt8) : hasB (meetB a b) x = (hasB a x && hasB b x) := by
  rw [Bool.eq_iff_iff, Bool.and_eq_true, hasB_iff, hasB_iff, hasB_iff]
  unfold meetB
  simp only [maxB_iff]
  cases ha : a.op <;> cases hb : b.op <;> simp [minB_iff] <;> constructor <;> rintro ⟨h1, h2⟩ <;> simp_all
def aboveR (p : List UInt8) : Rg := ⟨p, upB p, decide (upB p = [])⟩
theorem has_above (p x : List UInt8) (hx : isKeyB x = true) : hasB (aboveR p) x = decide (comB p x = p.length) := by
  rw [Bool.eq_iff_iff, hasB_iff, decide_eq_true_eq, comB_pre, ← pre_iff]
  simp [aboveR, hx]
def lowB (r : Rg) (k : List UInt8) : Rg := ⟨r.lo, if r.op then k else minB r.hi k, false⟩
def highB (r : Rg) (k : List UInt8) : Rg := ⟨maxB r.lo k, if r.op then [] else r.hi, r.op⟩
theorem has_low (r : Rg) (k x : List UInt8) : hasB (lowB r k) x = (hasB r x && decide (LtB x k)) := by
  rw [Bool.eq_iff_iff, Bool.and_eq_true, hasB_iff, hasB_iff, decide_eq_true_eq]
  unfold lowB
  cases hr : r.op <;> simp [minB_iff] <;> constructor <;> rintro ⟨h1, h2⟩ <;> simp_all
theorem has_high (r : Rg) (k x : List UInt8) : hasB (highB r k) x = (hasB r x && !decide (LtB x k)) := by
  rw [Bool.eq_iff_iff, Bool.and_eq_true, hasB_iff, hasB_iff]
  unfold highB
  simp only [maxB_iff, Bool.not_eq_true', decide_eq_false_iff_not, LtB.not]
  cases hr : r.op <;> simp <;> constructor <;> rintro ⟨h1, h2⟩ <;> simp_all
/-! ### The shortest key between -/
def betwB (a b : List UInt8) : Option (List UInt8) :=
  if 0 ≤ cmpB a b then none else if 24 ≤ comB a b then none
  else if comB a b = a.length then some (b.take (comB a b) ++ [0]) else some (b.take (comB a b) ++ [b8n a (comB a b)])
where b8n (a : List UInt8) (n : Nat) : UInt8 := a.getD n 0 + 1
/-- Two rows, the first below the second: what they have in common, and how they go on. -/
theorem lt_split {a b : List UInt8} (h : LtB a b) : ∃ p a' b', a = p ++ a' ∧ b = p ++ b' ∧ comB a b = p.length ∧
    ((a' = [] ∧ b' ≠ []) ∨ ∃ u v a'' b'', a' = u :: a'' ∧ b' = v :: b'' ∧ u < v) := by
  induction a generalizing b with
  | nil =>
    cases b with
    | nil => exact absurd h (LtB.irrefl _)
    | cons v b => exact ⟨[], [], v :: b, rfl, rfl, rfl, .inl ⟨rfl, by simp⟩⟩
  | cons x a ih =>
    cases b with
    | nil => exact absurd h LtB.not_nil
    | cons y b =>
      rcases LtB.cons.1 h with hxy | ⟨rfl, hab⟩
      · refine ⟨[], x :: a, y :: b, rfl, rfl, ?_, .inr ⟨x, y, a, b, rfl, rfl, hxy⟩⟩
        have : x ≠ y := fun e => by subst e; exact UInt8.lt_irrefl _ hxy
        simp [comB, this]
      · obtain ⟨p, a', b', rfl, rfl, hc, hr⟩ := ih hab
        exact ⟨x :: p, a', b', rfl, rfl, by simp [comB, hc], hr⟩
/-- What lies between two rows begins as both do. -/
theorem between_pre {p a b x : List UInt8} (h1 : LeB (p ++ a) x) (h2 : LeB x (p ++ b)) : ∃ y, x = p ++ y := by
  induction p generalizing x with
  | nil => exact ⟨x, rfl⟩
  | cons c p ih =>
    cases x with
    | nil => exact absurd (LeB.nil_iff.1 h1) (by simp)
    | cons d x =>
      rw [List.cons_append, LeB.cons] at h1 h2
      have hcd : c = d := by
        rcases h1 with h1 | h1
        · rcases h2 with h2 | h2
          · exact absurd h2 (UInt8.not_lt.2 (UInt8.le_of_lt h1))
          · exact h2.1.symm
        · exact h1.1
      subst hcd
      have g1 : LeB (p ++ a) x := by
        rcases h1 with h1 | h1
        · exact absurd h1 (UInt8.lt_irrefl _)
        · exact h1.2
      have g2 : LeB x (p ++ b) := by
        rcases h2 with h2 | h2
        · exact absurd h2 (UInt8.lt_irrefl _)
        · exact h2.2
      obtain ⟨y, rfl⟩ := ih g1 g2
      exact ⟨y, rfl⟩
/-- What betwB answers of two rows that part behind p. -/
theorem betwB_of {a b p a' b' : List UInt8} (h : LtB a b) (ha : a = p ++ a') (hb : b = p ++ b') (hc : comB a b = p.length) :
    betwB a b = if 24 ≤ p.length then none else if a' = [] then some (p ++ [0]) else some (p ++ [a'.getD 0 0 + 1]) := by
  unfold betwB
  rw [if_neg (by rw [ge_iff, LeB.not]; exact h), hc]
  have e1 : b.take p.length = p := by rw [hb]; simp
  have e2 : p.length = a.length ↔ a' = [] := by rw [ha]; simp
  have e3 : a.getD p.length 0 = a'.getD 0 0 := by
    rw [ha, List.getD_eq_getElem?_getD, List.getElem?_append_right (Nat.le_refl _), Nat.sub_self, List.getD_eq_getElem?_getD]
  simp only [e1, e2, betwB.b8n, e3]
theorem betwB_some {a b k : List UInt8} (h : betwB a b = some k) : 1 ≤ k.length ∧ k.length ≤ 24 ∧ LtB a k ∧ LeB k b ∧ k.length = comB a b + 1 := by
  have hlt : LtB a b := by
    unfold betwB at h
    split at h
    · cases h
    · rename_i h0
      have := cmpB_bd a b
      unfold LtB
      omega
  obtain ⟨p, a', b', ha, hb, hc, hr⟩ := lt_split hlt
  rw [betwB_of hlt ha hb hc] at h
  split at h
  · cases h
  rename_i hp
  rcases hr with ⟨rfl, hb'⟩ | ⟨u, v, a'', b'', rfl, rfl, huv⟩
  · simp only [if_true, Option.some.injEq] at h
    subst h
    refine ⟨by simp, by simp; omega, ?_, ?_, by simp [hc]⟩
    · rw [ha, LtB.app]; exact LtB.nil_cons _ _
    · rw [hb, LeB.app]
      cases b' with
      | nil => exact absurd rfl hb'
      | cons c b' =>
        rw [LeB.cons]
        by_cases e : 0 = c
        · exact .inr ⟨e, LeB.nil _⟩
        · refine .inl (UInt8.lt_of_le_of_ne ?_ e)
          rw [UInt8.le_iff_toNat_le]; exact Nat.zero_le _
  · simp only [reduceCtorEq, if_false, Option.some.injEq] at h
    subst h
    simp only [List.getD_cons_zero]
    refine ⟨by simp, by simp; omega, ?_, ?_, by simp [hc]⟩
    · rw [ha, LtB.app]; exact LtB.cons.2 (.inl (lt_succ u (ne_255 huv)))
    · rw [hb, LeB.app, LeB.cons]
      by_cases e : u + 1 = v
      · exact .inr ⟨e, LeB.nil _⟩
      · exact .inl (UInt8.lt_of_le_of_ne (succ_le huv) e)
theorem betwB_key {a b : List UInt8} (h : LtB a b) (hb : b.length ≤ 24) : ∃ k, betwB a b = some k := by
  obtain ⟨p, a', b', ha, hb', hc, hr⟩ := lt_split h
  rw [betwB_of h ha hb' hc]
  have hp : p.length < 24 := by
    have hl : b.length = p.length + b'.length := by rw [hb']; simp
    have : 0 < b'.length := by
      rcases hr with ⟨_, hn⟩ | ⟨u, v, a'', b'', _, rfl, _⟩
      · exact List.length_pos_iff.2 hn
      · simp
    omega
  rw [if_neg (by omega)]
  split <;> exact ⟨_, rfl⟩
theorem betwB_least {a b x : List UInt8} (hx : x.length ≤ 24) (h1 : LtB a x) (h2 : LeB x b) : ∃ k, betwB a b = some k ∧ (k.length < x.length ∨ (x.length = k.length ∧ LeB k x)) := by
  have hlt := h1.trans_le h2
  obtain ⟨p, a', b', ha, hb, hc, hr⟩ := lt_split hlt
  obtain ⟨y, rfl⟩ := between_pre (ha ▸ h1.le) (hb ▸ h2)
  rw [ha, LtB.app] at h1
  rw [betwB_of hlt ha hb hc]
  have hy : y ≠ [] := fun e => by subst e; exact LtB.not_nil h1
  have hyl := List.length_pos_iff.2 hy
  simp only [List.length_append] at hx
  rw [if_neg (by omega)]
  cases y with
  | nil => exact absurd rfl hy
  | cons c y =>
    rcases hr with ⟨rfl, hb'⟩ | ⟨u, v, a'', b'', rfl, rfl, huv⟩
    · refine ⟨p ++ [0], by simp, ?_⟩
      simp only [List.length_append, List.length_cons, List.length_nil]
      by_cases hy0 : y = []
      · refine .inr ⟨by simp [hy0], ?_⟩
        rw [LeB.app, LeB.cons]
        by_cases e : 0 = c
        · exact .inr ⟨e, LeB.nil _⟩
        · refine .inl (UInt8.lt_of_le_of_ne ?_ e)
          rw [UInt8.le_iff_toNat_le]; exact Nat.zero_le _
      · have := List.length_pos_iff.2 hy0
        exact .inl (by omega)
    · refine ⟨p ++ [u + 1], by simp, ?_⟩
      simp only [List.length_append, List.length_cons, List.length_nil]
      by_cases hy0 : y = []
      · subst hy0
        refine .inr ⟨by simp, ?_⟩
        rcases LtB.cons.1 h1 with huc | ⟨rfl, h3⟩
        · rw [LeB.app, LeB.cons]
          by_cases e : u + 1 = c
          · exact .inr ⟨e, LeB.nil _⟩
          · exact .inl (UInt8.lt_of_le_of_ne (succ_le huc) e)
        · exact absurd h3 LtB.not_nil
      · have := List.length_pos_iff.2 hy0
        exact .inl (by omega)
/-- The row of as many bytes that comes next, as a number; none, where all are FF. -/
def incB : List UInt8 → Option (List UInt8)
  | [] => none
  | a :: p => match incB p with
    | some q => some (a :: q)
    | none => if a = 255 then none else some ((a + 1) :: List.replicate p.length 0)
/-- The least row of n bytes that is above a. -/
def aboveN (a : List UInt8) (n : Nat) : Option (List UInt8) := if a.length < n then some (a ++ List.replicate (n - a.length) 0) else incB (a.take n)
theorem zeros_le {n : Nat} {x : List UInt8} (h : x.length = n) : LeB (List.replicate n 0) x := by
  subst h
  induction x with
  | nil => exact LeB.refl _
  | cons c x ih =>
    rw [List.length_cons, List.replicate_succ, LeB.cons]
    by_cases e : 0 = c
    · exact .inr ⟨e, ih⟩
    · refine .inl (UInt8.lt_of_le_of_ne ?_ e)
      rw [UInt8.le_iff_toNat_le]; exact Nat.zero_le _
theorem incB_some {p q : List UInt8} (h : incB p = some q) : q.length = p.length ∧ (∀ t, LtB (p ++ t) q) ∧ ∀ x, x.length = p.length → LtB p x → LeB q x := by
  induction p generalizing q with
  | nil => cases h
  | cons a p ih =>
    simp only [incB] at h
    cases hi : incB p with
    | some r =>
      simp only [hi, Option.some.injEq] at h
      subst h
      obtain ⟨h1, h2, h3⟩ := ih hi
      refine ⟨by simp [h1], fun t => LtB.cons.2 (.inr ⟨rfl, h2 t⟩), fun x hx hlt => ?_⟩
      cases x with
      | nil => simp at hx
      | cons c x =>
        rcases LtB.cons.1 hlt with hac | ⟨rfl, hpx⟩
        · exact LeB.cons.2 (.inl hac)
        · exact LeB.cons.2 (.inr ⟨rfl, h3 x (by simpa using hx) hpx⟩)
    | none =>
      simp only [hi] at h
      split at h
      · cases h
      rename_i ha
      injection h with h
      subst h
      refine ⟨by simp, fun t => LtB.cons.2 (.inl (lt_succ a ha)), fun x hx hlt => ?_⟩
      cases x with
      | nil => simp at hx
      | cons c x =>
        have hxl : x.length = p.length := by simpa using hx
        rcases LtB.cons.1 hlt with hac | ⟨rfl, hpx⟩
        · rw [LeB.cons]
          by_cases e : a + 1 = c
          · exact .inr ⟨e, zeros_le hxl⟩
          · exact .inl (UInt8.lt_of_le_of_ne (succ_le hac) e)
        · exfalso
          have key : ∀ p : List UInt8, incB p = none → ∀ x : List UInt8, x.length = p.length → ¬ LtB p x := by
            intro p
            induction p with
            | nil =>
              intro _ x hx hlt
              have : x = [] := List.eq_nil_of_length_eq_zero (by simpa using hx)
              subst this
              exact LtB.irrefl _ hlt
            | cons b p ihp =>
              intro hn x hx hlt
              simp only [incB] at hn
              cases hq : incB p with
              | some r => simp [hq] at hn
              | none =>
                simp only [hq] at hn
                split at hn
                · rename_i hb
                  subst hb
                  cases x with
                  | nil => simp at hx
                  | cons c x =>
                    rcases LtB.cons.1 hlt with hbc | ⟨_, h4⟩
                    · exact ne_255 hbc rfl
                    · exact ihp hq x (by simpa using hx) h4
                · cases hn
          exact key p hi x hxl hpx
theorem incB_none {p : List UInt8} (h : incB p = none) (x : List UInt8) (hx : x.length = p.length) : ¬ LtB p x := by
  induction p generalizing x with
  | nil =>
    intro hlt
    have : x = [] := List.eq_nil_of_length_eq_zero (by simpa using hx)
    subst this
    exact LtB.irrefl _ hlt
  | cons b p ihp =>
    intro hlt
    simp only [incB] at h
    cases hq : incB p with
    | some r => simp [hq] at h
    | none =>
      simp only [hq] at h
      split at h
      · rename_i hb
        subst hb
        cases x with
        | nil => simp at hx
        | cons c x =>
          rcases LtB.cons.1 hlt with hbc | ⟨_, h4⟩
          · exact ne_255 hbc rfl
          · exact ihp hq x (by simpa using hx) h4
      · cases h
theorem aboveN_some {a k : List UInt8} {n : Nat} (h : aboveN a n = some k) : k.length = n ∧ LtB a k ∧ ∀ x, x.length = n → LtB a x → LeB k x := by
  unfold aboveN at h
  split at h
  · rename_i hn
    injection h with h
    subst h
    refine ⟨by simp; omega, ?_, fun x hx hlt => ?_⟩
    · have : List.replicate (n - a.length) (0 : UInt8) = 0 :: List.replicate (n - a.length - 1) 0 := by
        rw [← List.replicate_succ]; congr 1; omega
      rw [this]
      have := (LtB.app (p := a) (a := []) (b := 0 :: List.replicate (n - a.length - 1) 0)).2 (LtB.nil_cons _ _)
      simpa using this
    · clear hn
      induction a generalizing n x with
      | nil => simpa using zeros_le hx
      | cons c a ih =>
        cases x with
        | nil => exact absurd hlt LtB.not_nil
        | cons d x =>
          rw [List.cons_append, LeB.cons]
          rcases LtB.cons.1 hlt with h1 | ⟨rfl, h1⟩
          · exact .inl h1
          · refine .inr ⟨rfl, ?_⟩
            have := ih (n := n - 1) x (by simp at hx; omega) h1
            rwa [show n - (c :: a).length = n - 1 - a.length by simp; omega]
  · rename_i hn
    obtain ⟨h1, h2, h3⟩ := incB_some h
    have hl : (a.take n).length = n := by simp; omega
    refine ⟨by rw [h1, hl], ?_, fun x hx hlt => h3 x (by rw [hl]; exact hx) ?_⟩
    · have := h2 (a.drop n)
      rwa [List.take_append_drop] at this
    · have hle : LeB (a.take n) a := by
        have := LeB.pre (a.take n) (a.drop n)
        rwa [List.take_append_drop] at this
      exact hle.trans_lt hlt
theorem aboveN_none {a : List UInt8} {n : Nat} (h : aboveN a n = none) (x : List UInt8) (hx : x.length = n) : ¬ LtB a x := by
  unfold aboveN at h
  split at h
  · cases h
  · rename_i hn
    intro hlt
    have hl : (a.take n).length = n := by simp; omega
    refine incB_none h x (by rw [hl]; exact hx) ?_
    have hle : LeB (a.take n) a := by
      have := LeB.pre (a.take n) (a.drop n)
      rwa [List.take_append_drop] at this
    exact hle.trans_lt hlt
/-- Of n and more bytes: the first that is there. -/
def firstN (a b : List UInt8) : Nat → Nat → Option (List UInt8)
  | 0, _ => none
  | f + 1, n => match aboveN a n with
    | some k => if LeB k b then some k else firstN a b f (n + 1)
    | none => firstN a b f (n + 1)
def refBetw (a b : List UInt8) : Option (List UInt8) := firstN a b 24 1
theorem firstN_some {a b k : List UInt8} : ∀ (f n : Nat), firstN a b f n = some k → ∃ m, n ≤ m ∧ m < n + f ∧ aboveN a m = some k ∧ LeB k b ∧ ∀ j, n ≤ j → j < m → ∀ x, aboveN a j = some x → ¬ LeB x b
  | 0, _, h => by cases h
  | f + 1, n, h => by
    have step : firstN a b f (n + 1) = some k → (∀ x, aboveN a n = some x → ¬ LeB x b) → ∃ m, n ≤ m ∧ m < n + (f + 1) ∧ aboveN a m = some k ∧ LeB k b ∧ ∀ j, n ≤ j → j < m → ∀ x, aboveN a j = some x → ¬ LeB x b := fun h hn => by
      obtain ⟨m, h1, h2, h3, h4, h5⟩ := firstN_some f (n + 1) h
      refine ⟨m, by omega, by omega, h3, h4, fun j hj1 hj2 x hx => ?_⟩
      by_cases e : j = n
      · subst e; exact hn x hx
      · exact h5 j (by omega) hj2 x hx
    simp only [firstN] at h
    cases ha : aboveN a n with
    | none =>
      simp only [ha] at h
      exact step h (fun x hx => by rw [ha] at hx; cases hx)
    | some q =>
      simp only [ha] at h
      split at h
      · rename_i hq
        injection h with h
        subst h
        exact ⟨n, Nat.le_refl _, by omega, ha, hq, fun j h1 h2 => by omega⟩
      · rename_i hq
        exact step h (fun x hx => by rw [ha] at hx; injection hx with hx; subst hx; exact hq)
theorem firstN_none {a b : List UInt8} : ∀ (f n : Nat), firstN a b f n = none → ∀ m, n ≤ m → m < n + f → ∀ x, aboveN a m = some x → ¬ LeB x b
  | 0, n, _, m, h1, h2, _, _ => by omega
  | f + 1, n, h, m, h1, h2, x, hx => by
    simp only [firstN] at h
    by_cases e : m = n
    · subst e
      simp only [hx] at h
      split at h
      · cases h
      · assumption
    · refine firstN_none f (n + 1) ?_ m (by omega) (by omega) x hx
      cases ha : aboveN a n with
      | none => simpa [ha] using h
      | some q =>
        simp only [ha] at h
        split at h
        · cases h
        · exact h
/-- Both ways of telling the shortest key between agree. -/
theorem refBetw_eq (a b : List UInt8) : refBetw a b = betwB a b := by
  unfold refBetw
  cases hf : firstN a b 24 1 with
  | some k =>
    obtain ⟨m, h1, h2, h3, h4, h5⟩ := firstN_some 24 1 hf
    obtain ⟨hl, hgt, hleast⟩ := aboveN_some h3
    obtain ⟨q, hq, hql⟩ := betwB_least (x := k) (by omega) hgt h4
    obtain ⟨q1, q2, q3, q4, _⟩ := betwB_some hq
    rw [hq]
    have hqm : q.length = m := by
      rcases hql with hql | hql
      · exfalso
        cases ha : aboveN a q.length with
        | none => exact aboveN_none ha q rfl q3
        | some y =>
          obtain ⟨_, _, hy⟩ := aboveN_some ha
          exact h5 q.length (by omega) (by omega) y ha ((hy q rfl q3).trans q4)
      · omega
    rcases hql with hql | hql
    · omega
    · rw [(hleast q hqm q3).antisymm hql.2]
  | none =>
    cases hb : betwB a b with
    | none => rfl
    | some q =>
      exfalso
      obtain ⟨q1, q2, q3, q4, _⟩ := betwB_some hb
      cases ha : aboveN a q.length with
      | none => exact aboveN_none ha q rfl q3
      | some y =>
        obtain ⟨_, _, hy⟩ := aboveN_some ha
        exact firstN_none 24 1 hf q.length q1 (by omega) y ha ((hy q rfl q3).trans q4)
end Go.Proofs.Ytijlaknfagpglaa
