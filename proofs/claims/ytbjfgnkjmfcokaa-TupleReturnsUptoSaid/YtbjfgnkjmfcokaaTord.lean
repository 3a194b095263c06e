/- Layer 3: bytes are ordered as tuples are: plain laws. No program. -/
import Derived.Test.YtbjfgnkjmfcokaaTlaw
namespace Go.Proofs.Ytbjfgnkjmfcokaa
open Go.RowKit Go.Proofs
set_option linter.unusedVariables false
theorem cmpI_swap (a b : Int) : cmpI b a = -cmpI a b := by
  unfold cmpI
  split
  · split
    · omega
    · rfl
  · split <;> rfl
theorem cmpI_bd (a b : Int) : cmpI a b = -1 ∨ cmpI a b = 0 ∨ cmpI a b = 1 := by
  unfold cmpI
  split
  · simp
  split <;> simp
theorem cmpV_swap (a b : Vl) : cmpV b a = -cmpV a b := by
  unfold cmpV
  by_cases hk : a.kind = b.kind
  · rw [if_pos hk, if_pos hk.symm, hk]
    split
    · exact cmpI_swap _ _
    split
    · exact cmpI_swap _ _
    split
    · exact cmpI_swap _ _
    split
    · rw [cmpI_swap (rankN a.re) (rankN b.re), cmpI_swap (rankN a.im) (rankN b.im)]
      split <;> split <;> omega
    split
    · exact cmpB_swap _ _
    · rfl
  · rw [if_neg hk, if_neg (fun e => hk e.symm)]
    exact cmpI_swap _ _
theorem cmpV_bd (a b : Vl) : cmpV a b = -1 ∨ cmpV a b = 0 ∨ cmpV a b = 1 := by
  unfold cmpV
  split
  · split
    · exact cmpI_bd _ _
    split
    · exact cmpI_bd _ _
    split
    · exact cmpI_bd _ _
    split
    · split
      · exact cmpI_bd _ _
      · exact cmpI_bd _ _
    split
    · exact cmpB_bd _ _
    · simp
  · exact cmpI_bd _ _
theorem cmpB_cons (x y : UInt8) (a b : List UInt8) : cmpB (x :: a) (y :: b) = if x = y then cmpB a b else cmpI x.toNat y.toNat := by
  simp only [cmpB, cmpI]
  by_cases h : x = y
  · subst h
    simp [UInt8.lt_irrefl]
  · have h2 : x.toNat ≠ y.toNat := fun e => h (UInt8.toNat_inj.1 e)
    rw [if_neg h]
    simp only [UInt8.lt_iff_toNat_lt]
    by_cases h3 : x.toNat < y.toNat
    · rw [if_pos h3, if_pos (by omega)]
    · rw [if_neg h3, if_pos (by omega), if_neg (by omega), if_pos (by omega)]
/-- What stands behind a text: nothing that looks like a byte more. -/
def Fol (s : List UInt8) : Prop := s.head? ≠ some 255 ∨ s = [255]
theorem esc_cmp : ∀ (a b r s : List UInt8), r.head? ≠ some 255 → Fol s → cmpB (escB a ++ 0 :: r) (escB b ++ 0 :: s) = if cmpB a b = 0 then cmpB r s else cmpB a b
  | [], [], r, s, _, _ => by simp [escB, cmpB]
  | [], y :: b, r, s, hr, hs => by
    by_cases h0 : y = 0
    · subst h0
      simp only [escB, if_true, List.cons_append, List.nil_append, cmpB_cons]
      cases r with
      | nil => simp [cmpB]
      | cons z r =>
        have hz : z ≠ 255 := fun e => hr (by simp [e])
        rw [cmpB_cons, if_neg hz]
        have := z.toNat_lt
        have hz2 : z.toNat ≠ 255 := fun e => hz (UInt8.toNat_inj.1 e)
        simp [cmpB, cmpI]
        omega
    · simp only [escB, if_neg h0, List.cons_append, List.nil_append, cmpB_cons]
      rw [if_neg (fun e => h0 e.symm)]
      have hz2 : y.toNat ≠ 0 := fun e => h0 (UInt8.toNat_inj.1 e)
      simp [cmpB, cmpI]
      omega
  | x :: a, [], r, s, hr, hs => by
    by_cases h0 : x = 0
    · subst h0
      simp only [escB, if_true, List.cons_append, List.nil_append, cmpB_cons]
      cases s with
      | nil => simp [cmpB]
      | cons z s =>
        rw [cmpB_cons]
        by_cases hz : z = 255
        · subst hz
          rcases hs with hs | hs
          · simp at hs
          · injection hs with _ hs
            subst hs
            rw [if_pos rfl]
            have : cmpB (escB a ++ 0 :: r) [] = 1 := by
              cases hh : escB a ++ 0 :: r with
              | nil => simp at hh
              | cons p q => rfl
            rw [this]
            simp [cmpB]
        · have := z.toNat_lt
          have hz2 : z.toNat ≠ 255 := fun e => hz (UInt8.toNat_inj.1 e)
          rw [if_neg (fun e => hz e.symm)]
          simp [cmpB, cmpI]
          omega
    · simp only [escB, if_neg h0, List.cons_append, List.nil_append, cmpB_cons]
      have hz2 : x.toNat ≠ 0 := fun e => h0 (UInt8.toNat_inj.1 e)
      simp [cmpB, cmpI]
      omega
  | x :: a, y :: b, r, s, hr, hs => by
    have ih := esc_cmp a b r s hr hs
    by_cases hxy : x = y
    · subst hxy
      rw [cmpB_cons, if_pos rfl]
      by_cases h0 : x = 0
      · subst h0
        simp only [escB, if_true, List.cons_append, cmpB_cons]
        exact ih
      · simp only [escB, if_neg h0, List.cons_append, cmpB_cons, if_true]
        exact ih
    · have hne : x.toNat ≠ y.toNat := fun e => hxy (UInt8.toNat_inj.1 e)
      have hc : cmpI x.toNat y.toNat ≠ 0 := fun e => hne (by have := cmpI_eq.1 e; omega)
      have he : ∀ z (t : List UInt8), ∃ q, escB (z :: t) = z :: q := fun z t => by
        simp only [escB]
        split
        · rename_i e; exact ⟨255 :: escB t, by rw [e]⟩
        · exact ⟨_, rfl⟩
      obtain ⟨p, hp⟩ := he x a
      obtain ⟨q, hq⟩ := he y b
      rw [hp, hq, List.cons_append, List.cons_append, cmpB_cons, cmpB_cons, if_neg hxy, if_neg hxy, if_neg hc]
theorem big_cmp (x y : Nat) (r s : List UInt8) : ∀ n, cmpB (bigB x n ++ r) (bigB y n ++ s) = if x % 256 ^ n = y % 256 ^ n then cmpB r s else cmpI (x % 256 ^ n : Nat) (y % 256 ^ n : Nat)
  | 0 => by simp [bigB, Nat.mod_one]
  | n + 1 => by
    have ih := big_cmp x y r s n
    have h1 := b8_toNat ((x / 256 ^ n : Nat) : Int)
    have h2 := b8_toNat ((y / 256 ^ n : Nat) : Int)
    have hx : x % 256 ^ (n + 1) = (x / 256 ^ n % 256) * 256 ^ n + x % 256 ^ n := by rw [Nat.pow_succ, Nat.mod_mul, Nat.mul_comm]; omega
    have hy : y % 256 ^ (n + 1) = (y / 256 ^ n % 256) * 256 ^ n + y % 256 ^ n := by rw [Nat.pow_succ, Nat.mod_mul, Nat.mul_comm]; omega
    have hp : 0 < 256 ^ n := Nat.pow_pos (by omega)
    have lx := Nat.mod_lt x hp
    have ly := Nat.mod_lt y hp
    simp only [bigB, List.cons_append, cmpB_cons]
    rw [ih, hx, hy]
    have e1 : (b8 ((x / 256 ^ n : Nat) : Int)).toNat = x / 256 ^ n % 256 := by omega
    have e2 : (b8 ((y / 256 ^ n : Nat) : Int)).toNat = y / 256 ^ n % 256 := by omega
    rw [e1, e2]
    generalize x / 256 ^ n % 256 = a at *
    generalize y / 256 ^ n % 256 = b at *
    generalize x % 256 ^ n = c at *
    generalize y % 256 ^ n = d at *
    have hb : b8 ((x / 256 ^ n : Nat) : Int) = b8 ((y / 256 ^ n : Nat) : Int) ↔ a = b := by rw [← UInt8.toNat_inj, e1, e2]
    generalize 256 ^ n = p at *
    by_cases hab : a = b
    · rw [if_pos (hb.2 hab)]
      subst hab
      by_cases hcd : c = d
      · rw [if_pos hcd, if_pos (by rw [hcd])]
      · rw [if_neg hcd, if_neg (by omega)]
        unfold cmpI
        split
        · rw [if_pos (by omega)]
        split
        · rw [if_neg (by omega), if_pos (by omega)]
        · omega
    · rw [if_neg (fun e => hab (hb.1 e))]
      rcases Nat.lt_or_gt_of_ne hab with hlt | hgt
      · have := Nat.mul_le_mul_right p (show a + 1 ≤ b from hlt)
        rw [Nat.add_mul] at this
        rw [if_neg (by omega)]
        unfold cmpI
        rw [if_pos (by omega), if_pos (by omega)]
      · have := Nat.mul_le_mul_right p (show b + 1 ≤ a from hgt)
        rw [Nat.add_mul] at this
        rw [if_neg (by omega)]
        unfold cmpI
        rw [if_neg (by omega), if_pos (by omega), if_neg (by omega), if_pos (by omega)]
theorem cmpI_same_l {p q i j X : Int} (h1 : p < q) (h2 : i < j) : cmpI p q = if cmpI i j = 0 then X else cmpI i j := by
  have e1 : cmpI p q = -1 := by unfold cmpI; rw [if_pos h1]
  have e2 : cmpI i j = -1 := by unfold cmpI; rw [if_pos h2]
  rw [e1, e2]; rfl
theorem cmpI_same_g {p q i j X : Int} (h1 : q < p) (h2 : j < i) : cmpI p q = if cmpI i j = 0 then X else cmpI i j := by
  have e1 : cmpI p q = 1 := by unfold cmpI; rw [if_neg (by omega), if_pos h1]
  have e2 : cmpI i j = 1 := by unfold cmpI; rw [if_neg (by omega), if_pos h2]
  rw [e1, e2]; rfl
theorem width_lt {x y : Nat} (h : widthN x < widthN y) : x < y := by
  have h1 := lt_width x
  have h2 : ¬ y < 256 ^ widthN x := fun e => by have := (widthN_le (widthN x) y).2 e; omega
  omega
theorem rank_cmp {x y : Nat} (hx : x < 18446744073709551616) (hy : y < 18446744073709551616) (r s : List UInt8) : cmpB (bigB (rankN x) 8 ++ r) (bigB (rankN y) 8 ++ s) = if cmpI (rankN x) (rankN y) = 0 then cmpB r s else cmpI (rankN x) (rankN y) := by
  rw [big_cmp, pow_256_8, Nat.mod_eq_of_lt (rankN_bd hx), Nat.mod_eq_of_lt (rankN_bd hy)]
  by_cases h : rankN x = rankN y
  · rw [if_pos h, if_pos (cmpI_eq.2 (by rw [h]))]
  · rw [if_neg h, if_neg (fun e => h (by have := cmpI_eq.1 e; omega))]
theorem b8_small {i : Int} (h : 0 ≤ i) (h2 : i < 256) : ((b8 i).toNat : Int) = i := by rw [b8_toNat]; omega
theorem int_cmp {i j : Int} (hi : -9223372036854775808 ≤ i ∧ i ≤ 9223372036854775807) (hj : -9223372036854775808 ≤ j ∧ j ≤ 9223372036854775807) (r s : List UInt8) : cmpB (putI i ++ r) (putI j ++ s) = if cmpI i j = 0 then cmpB r s else cmpI i j := by
  have key : ∀ (x y : Nat) (p q : Int), 0 ≤ p → p < 256 → 0 ≤ q → q < 256 → p ≠ q → cmpB (b8 p :: (bigB x (widthN x) ++ r)) (b8 q :: (bigB y (widthN y) ++ s)) = cmpI p q := fun x y p q h1 h2 h3 h4 h5 => by
    rw [cmpB_cons, if_neg, b8_small h1 h2, b8_small h3 h4]
    intro e
    have := congrArg (fun z : UInt8 => (z.toNat : Int)) e
    simp only [b8_small h1 h2, b8_small h3 h4] at this
    exact h5 this
  unfold putI
  by_cases h1 : 0 ≤ i
  · rw [if_pos h1]
    obtain ⟨x, hx⟩ : ∃ x, i.toNat = x := ⟨_, rfl⟩
    have hxw := widthN_8 (x := x) (by omega)
    by_cases h2 : 0 ≤ j
    · rw [if_pos h2]
      obtain ⟨y, hy⟩ : ∃ x, j.toNat = x := ⟨_, rfl⟩
      have hyw := widthN_8 (x := y) (by omega)
      rw [hx, hy, List.cons_append, List.cons_append]
      have hc : cmpI i j = cmpI x y := by rw [show i = (x : Int) by omega, show j = (y : Int) by omega]
      rw [hc]
      by_cases hw : widthN x = widthN y
      · rw [cmpB_cons, hw, if_pos rfl, big_cmp, Nat.mod_eq_of_lt (by rw [← hw]; exact lt_width x), Nat.mod_eq_of_lt (lt_width y)]
        by_cases h : x = y
        · rw [if_pos h, if_pos (cmpI_eq.2 (by rw [h]))]
        · rw [if_neg h, if_neg (fun e => h (by have := cmpI_eq.1 e; omega))]
      · rw [key _ _ _ _ (by omega) (by omega) (by omega) (by omega) (by omega)]
        rcases Nat.lt_or_gt_of_ne hw with h | h
        · have := width_lt h
          exact cmpI_same_l (by omega) (by omega)
        · have := width_lt h
          exact cmpI_same_g (by omega) (by omega)
    · rw [if_neg h2]
      obtain ⟨y, hy⟩ : ∃ x, (-1 - j).toNat = x := ⟨_, rfl⟩
      have hyw := widthN_8 (x := y) (by omega)
      rw [hx, hy, List.cons_append, List.cons_append, cmpB_cons, if_neg, b8_small (by omega) (by omega), b8_small (by omega) (by omega)]
      · exact cmpI_same_g (by omega) (by omega)
      · intro e
        have := congrArg (fun z : UInt8 => (z.toNat : Int)) e
        simp only [b8_small (i := 32 + (widthN x : Int)) (by omega) (by omega), b8_small (i := 31 - (widthN y : Int)) (by omega) (by omega)] at this
        omega
  · rw [if_neg h1]
    obtain ⟨x, hx⟩ : ∃ x, (-1 - i).toNat = x := ⟨_, rfl⟩
    have hxw := widthN_8 (x := x) (by omega)
    by_cases h2 : 0 ≤ j
    · rw [if_pos h2]
      obtain ⟨y, hy⟩ : ∃ x, j.toNat = x := ⟨_, rfl⟩
      have hyw := widthN_8 (x := y) (by omega)
      rw [hx, hy, List.cons_append, List.cons_append, cmpB_cons, if_neg, b8_small (by omega) (by omega), b8_small (by omega) (by omega)]
      · exact cmpI_same_l (by omega) (by omega)
      · intro e
        have := congrArg (fun z : UInt8 => (z.toNat : Int)) e
        simp only [b8_small (i := 31 - (widthN x : Int)) (by omega) (by omega), b8_small (i := 32 + (widthN y : Int)) (by omega) (by omega)] at this
        omega
    · rw [if_neg h2]
      obtain ⟨y, hy⟩ : ∃ x, (-1 - j).toNat = x := ⟨_, rfl⟩
      have hyw := widthN_8 (x := y) (by omega)
      rw [hx, hy, List.cons_append, List.cons_append]
      have hc : cmpI i j = cmpI y x := by
        rw [show i = -1 - (x : Int) by omega, show j = -1 - (y : Int) by omega]
        unfold cmpI
        split
        · rw [if_pos (by omega)]
        split
        · rw [if_neg (by omega), if_pos (by omega)]
        · rw [if_neg (by omega), if_neg (by omega)]
      rw [hc]
      by_cases hw : widthN x = widthN y
      · have l1 := lt_width x
        have l2 := lt_width y
        rw [hw] at l1
        rw [cmpB_cons, hw, if_pos rfl, big_cmp, neg_mod hyw l1, neg_mod hyw l2]
        by_cases h : x = y
        · subst h
          rw [if_pos rfl, if_pos (cmpI_eq.2 rfl)]
        · rw [if_neg (by omega), if_neg (fun e => h (by have := cmpI_eq.1 e; omega))]
          unfold cmpI
          split
          · rw [if_pos (by omega)]
          split
          · rw [if_neg (by omega), if_pos (by omega)]
          · omega
      · rw [cmpB_cons, if_neg, b8_small (by omega) (by omega), b8_small (by omega) (by omega)]
        · rcases Nat.lt_or_gt_of_ne hw with h | h
          · have := width_lt h
            exact cmpI_same_g (by omega) (by omega)
          · have := width_lt h
            exact cmpI_same_l (by omega) (by omega)
        · intro e
          have := congrArg (fun z : UInt8 => (z.toNat : Int)) e
          simp only [b8_small (i := 31 - (widthN x : Int)) (by omega) (by omega), b8_small (i := 31 - (widthN y : Int)) (by omega) (by omega)] at this
          omega
/-- The first byte of a value, by its kind. -/
theorem put_tag {v : Vl} (hv : validV v = true) (ho : v.Ok) (r : List UInt8) : ∃ c q, putB v ++ r = c :: q ∧ ((v.kind = 0 ∧ c.toNat = 1) ∨ (v.kind = 1 ∧ (c.toNat = 2 ∨ c.toNat = 3)) ∨ (v.kind = 2 ∧ 23 ≤ c.toNat ∧ c.toNat ≤ 40) ∨ (v.kind = 3 ∧ c.toNat = 48) ∨ (v.kind = 4 ∧ c.toNat = 56) ∨ (v.kind = 5 ∧ c.toNat = 64)) := by
  rcases valid_cases hv with rfl | ⟨b, rfl⟩ | ⟨i, rfl⟩ | ⟨x, rfl⟩ | ⟨x, y, rfl⟩ | ⟨t, rfl⟩
  · exact ⟨1, r, rfl, .inl ⟨rfl, rfl⟩⟩
  · refine ⟨if b then 3 else 2, r, rfl, .inr (.inl ⟨rfl, ?_⟩)⟩
    cases b
    · exact .inl rfl
    · exact .inr rfl
  · have hi : -9223372036854775808 ≤ i ∧ i ≤ 9223372036854775807 := ho.int
    rw [put_int_kind]
    unfold putI
    split
    · have := widthN_8 (x := i.toNat) (by omega)
      have h2 := b8_small (i := 32 + (widthN i.toNat : Int)) (by omega) (by omega)
      exact ⟨_, _, List.cons_append, .inr (.inr (.inl ⟨rfl, by omega, by omega⟩))⟩
    · have := widthN_8 (x := (-1 - i).toNat) (by omega)
      have h2 := b8_small (i := 31 - (widthN (-1 - i).toNat : Int)) (by omega) (by omega)
      exact ⟨_, _, List.cons_append, .inr (.inr (.inl ⟨rfl, by omega, by omega⟩))⟩
  · rw [put_real]
    exact ⟨_, _, List.cons_append, .inr (.inr (.inr (.inl ⟨rfl, rfl⟩)))⟩
  · rw [put_point]
    exact ⟨_, _, List.cons_append, .inr (.inr (.inr (.inr (.inl ⟨rfl, rfl⟩))))⟩
  · rw [put_text]
    exact ⟨_, _, List.cons_append, .inr (.inr (.inr (.inr (.inr ⟨rfl, rfl⟩))))⟩
theorem put_cmp {u v : Vl} (hu : validV u = true) (hv : validV v = true) (ou : u.Ok) (ov : v.Ok) {r s : List UInt8} (hr : r.head? ≠ some 255) (hs : Fol s) : cmpB (putB u ++ r) (putB v ++ s) = if cmpV u v = 0 then cmpB r s else cmpV u v := by
  by_cases hk : u.kind = v.kind
  · rcases valid_cases hu with rfl | ⟨b, rfl⟩ | ⟨i, rfl⟩ | ⟨x, rfl⟩ | ⟨x, y, rfl⟩ | ⟨t, rfl⟩ <;> rcases valid_cases hv with rfl | ⟨b', rfl⟩ | ⟨i', rfl⟩ | ⟨x', rfl⟩ | ⟨x', y', rfl⟩ | ⟨t', rfl⟩ <;> (first | (exfalso; simp [Vl.zero] at hk; done) | skip)
    · rw [show cmpV Vl.zero Vl.zero = 0 from rfl, if_pos rfl, put_zero, List.cons_append, List.cons_append, cmpB_cons, if_pos rfl]; rfl
    · have e : cmpV { Vl.zero with kind := 1, bool := b } { Vl.zero with kind := 1, bool := b' } = cmpI (trI b) (trI b') := rfl
      rw [e, put_bool, put_bool, List.cons_append, List.cons_append, List.nil_append, List.nil_append, cmpB_cons]
      cases b <;> cases b' <;> simp [trI, cmpI]
    · have e : cmpV { Vl.zero with kind := 2, int := i } { Vl.zero with kind := 2, int := i' } = cmpI i i' := rfl
      rw [e, put_int_kind, put_int_kind]
      exact int_cmp ou.int ov.int r s
    · have e : cmpV { Vl.zero with kind := 3, real := x } { Vl.zero with kind := 3, real := x' } = cmpI (rankN x) (rankN x') := rfl
      rw [e, put_real, put_real, List.cons_append, List.cons_append, cmpB_cons, if_pos rfl]
      exact rank_cmp ou.real ov.real r s
    · have e : cmpV { Vl.zero with kind := 4, re := x, im := y } { Vl.zero with kind := 4, re := x', im := y' } = if cmpI (rankN x) (rankN x') = 0 then cmpI (rankN y) (rankN y') else cmpI (rankN x) (rankN x') := rfl
      rw [e, put_point, put_point, List.cons_append, List.cons_append, cmpB_cons, if_pos rfl, List.append_assoc, List.append_assoc, rank_cmp ou.re ov.re, rank_cmp ou.im ov.im]
      split
      · rfl
      · rfl
    · have e : cmpV { Vl.zero with kind := 5, text := t } { Vl.zero with kind := 5, text := t' } = cmpB t t' := rfl
      rw [e, put_text, put_text, List.cons_append, List.cons_append, cmpB_cons, if_pos rfl, List.append_assoc, List.append_assoc]
      exact esc_cmp t t' r s hr hs
  · have e : cmpV u v = cmpI u.kind v.kind := by unfold cmpV; rw [if_neg hk]
    obtain ⟨c, p, h1, h2⟩ := put_tag hu ou r
    obtain ⟨d, q, h3, h4⟩ := put_tag hv ov s
    rw [e, h1, h3, cmpB_cons, if_neg (by rintro rfl; omega), if_neg (fun h => hk (cmpI_eq.1 h))]
    unfold cmpI
    split
    · rw [if_pos (by omega)]
    split
    · rw [if_neg (by omega), if_pos (by omega)]
    · omega
theorem fol_of {s : List UInt8} (h : s.head? ≠ some 255) : Fol s := .inl h
/-- Bytes are compared as tuples are. -/
theorem enc_cmp : ∀ a b : List Vl, a.all validV = true → b.all validV = true → (∀ v ∈ a, v.Ok) → (∀ v ∈ b, v.Ok) → cmpB (encB a) (encB b) = cmpL a b
  | [], [], _, _, _, _ => rfl
  | [], v :: b, _, _, _, _ => by
    rw [encB_cons, encB_nil]
    have := putB_pos v
    cases h : putB v with
    | nil => rw [h] at this; simp at this
    | cons x t => rfl
  | u :: a, [], _, _, _, _ => by
    rw [encB_cons, encB_nil]
    have := putB_pos u
    cases h : putB u with
    | nil => rw [h] at this; simp at this
    | cons x t => rfl
  | u :: a, v :: b, ha, hb, oa, ob => by
    rw [List.all_cons, Bool.and_eq_true] at ha hb
    have oa' : ∀ v ∈ a, v.Ok := fun w hw => oa w (List.mem_cons_of_mem _ hw)
    have ob' : ∀ v ∈ b, v.Ok := fun w hw => ob w (List.mem_cons_of_mem _ hw)
    rw [encB_cons, encB_cons, put_cmp ha.1 hb.1 (oa u (by simp)) (ob v (by simp)) (encB_head oa') (fol_of (encB_head ob')), enc_cmp a b ha.2 hb.2 oa' ob']
    rfl
theorem encB_fol {m : List Vl} (om : ∀ v ∈ m, v.Ok) : Fol (encB m ++ [255]) := by
  cases m with
  | nil => exact .inr rfl
  | cons u m =>
    rw [encB_cons, List.append_assoc]
    exact .inl (put_head (om u (by simp)) _)
/-- Just the tuples that begin so lie in the range. -/
theorem enc_in : ∀ m l : List Vl, m.all validV = true → l.all validV = true → (∀ v ∈ m, v.Ok) → (∀ v ∈ l, v.Ok) →
    ((cmpB (encB m) (encB l) ≤ 0 ∧ cmpB (encB l) (encB m ++ [255]) < 0) ↔ (m.length ≤ l.length ∧ cmpL (l.take m.length) m = 0))
  | [], l, _, _, _, ol => by
    have h1 : cmpB (encB []) (encB l) ≤ 0 := LeB.nil _
    have h2 : cmpB (encB l) (encB [] ++ [255]) < 0 := by
      have hh := encB_head ol
      show cmpB (encB l) [255] < 0
      cases he : encB l with
      | nil => simp [cmpB]
      | cons x t =>
        rw [he] at hh
        have hx : x ≠ 255 := fun e => hh (by simp [e])
        have hx2 : x.toNat ≠ 255 := fun e => hx (UInt8.toNat_inj.1 e)
        have := x.toNat_lt
        rw [cmpB_cons, if_neg hx]
        unfold cmpI
        rw [if_pos (by simp; omega)]
        decide
    simp [h1, h2, cmpL]
  | u :: m, [], _, _, _, _ => by
    have h1 : cmpB (encB (u :: m)) (encB []) = 1 := by
      rw [encB_cons, encB_nil]
      have := putB_pos u
      cases h : putB u with
      | nil => rw [h] at this; simp at this
      | cons x t => rfl
    rw [h1]
    simp
  | u :: m, v :: l, hm, hl, om, ol => by
    rw [List.all_cons, Bool.and_eq_true] at hm hl
    have om' : ∀ v ∈ m, v.Ok := fun w hw => om w (List.mem_cons_of_mem _ hw)
    have ol' : ∀ v ∈ l, v.Ok := fun w hw => ol w (List.mem_cons_of_mem _ hw)
    have ih := enc_in m l hm.2 hl.2 om' ol'
    have hsw := cmpV_swap v u
    have hbd := cmpV_bd v u
    rw [encB_cons, encB_cons, List.append_assoc, put_cmp hm.1 hl.1 (om u (by simp)) (ol v (by simp)) (encB_head om') (fol_of (encB_head ol')), put_cmp hl.1 hm.1 (ol v (by simp)) (om u (by simp)) (encB_head ol') (encB_fol om')]
    have hlen : (u :: m).length ≤ (v :: l).length ↔ m.length ≤ l.length := by simp
    have htk : (v :: l).take (u :: m).length = v :: l.take m.length := rfl
    rw [hlen, htk, cmpL]
    by_cases h0 : cmpV v u = 0
    · rw [if_pos h0, if_pos h0, if_pos (by omega)]
      exact ih
    · rw [if_neg h0, if_neg h0, if_neg (by omega)]
      constructor
      · rintro ⟨a1, a2⟩; omega
      · rintro ⟨_, a2⟩; exact absurd a2 h0
end Go.Proofs.Ytbjfgnkjmfcokaa
