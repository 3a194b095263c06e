/- Layer 3: what is read of bytes, kind by kind: plain laws. No program. -/
import Derived.Test.YtbjfgnkjmfcokaaTdec
namespace Go.Proofs.Ytbjfgnkjmfcokaa
open Go.RowKit Go.Proofs
set_option linter.unusedVariables false
theorem get_none {b : List UInt8} (h : lenB b = 0) : getE b = 5 := by
  unfold getE
  rw [if_pos h]
theorem get_short {b : List UInt8} (h : lenB b ≠ 0) (h2 : b.length < lenB b) : getE b = 2 := by
  unfold getE
  rw [if_neg h, if_pos h2]
theorem get_fine {b : List UInt8} (h : lenB b ≠ 0) (h2 : lenB b ≤ b.length) (h3 : putB (valB (b.take (lenB b))) = b.take (lenB b)) : getE b = 0 := by
  unfold getE
  rw [if_neg h, if_neg (by omega), if_pos h3]
theorem get_form {b : List UInt8} (h : lenB b ≠ 0) (h2 : lenB b ≤ b.length) (h3 : putB (valB (b.take (lenB b))) ≠ b.take (lenB b)) : getE b = 5 := by
  unfold getE
  rw [if_neg h, if_neg (by omega), if_neg h3]
theorem b8_nat {x : UInt8} {n : Nat} (h : n < 256) : b8 (n : Int) = x ↔ n = x.toNat := by
  rw [← UInt8.toNat_inj]
  have := b8_toNat (n : Int)
  omega
theorem b8_of {x : UInt8} {i : Int} (h : 0 ≤ i) (h2 : i < 256) : b8 i = x ↔ i = (x.toNat : Int) := by
  rw [← UInt8.toNat_inj]
  have := b8_toNat i
  omega
section
variable {c : UInt8} {r s : List UInt8}
/-- How many bytes stand behind the first of a whole number. -/
def intN (t : Nat) : Nat := if t ≤ 31 then 31 - t else t - 32
theorem len_int (h : 23 ≤ c.toNat) (h2 : c.toNat ≤ 40) : lenB (c :: r) = intN c.toNat + 1 := by
  unfold lenB intN
  simp only
  rw [if_neg (by omega)]
  split
  · rw [if_pos (by omega)]; omega
  · rw [if_pos (by omega), if_neg (by omega)]; omega
theorem val_int (h : 23 ≤ c.toNat) (h2 : c.toNat ≤ 40) : valB (c :: s) = { Vl.zero with kind := 2, int := (if (s.foldl gath (if c.toNat < 32 then 18446744073709551615 else 0) : Nat) < 9223372036854775808 then ((s.foldl gath (if c.toNat < 32 then 18446744073709551615 else 0) : Nat) : Int) else ((s.foldl gath (if c.toNat < 32 then 18446744073709551615 else 0) : Nat) : Int) - 18446744073709551616) } := by
  unfold valB
  simp only
  rw [if_neg (by omega), if_neg (by omega), if_pos (by omega)]
  generalize s.foldl gath (if c.toNat < 32 then 18446744073709551615 else 0) = X
  by_cases hh : X < 9223372036854775808
  · rw [if_pos (by omega), if_pos hh]
  · rw [if_neg (by omega), if_neg hh]
/-- The number that is laid: of one below 0 its distance from -1. -/
def intX (t X n : Nat) : Nat := if t ≤ 31 then 256 ^ n - 1 - X else X
def intV (t x : Nat) : Int := if t ≤ 31 then -1 - (x : Int) else x
theorem put_int_kind (i : Int) : putB { Vl.zero with kind := 2, int := i } = putI i := by
  unfold putB
  simp [Vl.zero]
theorem int_law (h : 23 ≤ c.toNat) (h2 : c.toNat ≤ 40) (hs : s.length = intN c.toNat) :
    (putB (valB (c :: s)) = c :: s ↔ widthN (intX c.toNat (bN s) s.length) = s.length ∧ intX c.toNat (bN s) s.length < 9223372036854775808) ∧
    (intX c.toNat (bN s) s.length < 9223372036854775808 → valB (c :: s) = { Vl.zero with kind := 2, int := intV c.toNat (intX c.toNat (bN s) s.length) }) := by
  have hn : s.length ≤ 8 := by rw [hs]; unfold intN; split <;> omega
  have hX := bN_lt s
  have hX8 := bN_lt8 hn
  have hp : 256 ^ s.length ≤ 18446744073709551616 := by rw [← pow_256_8]; exact Nat.pow_le_pow_right (by omega) hn
  rw [val_int h h2, put_int_kind]
  unfold intX intV
  by_cases hb : c.toNat ≤ 31
  · rw [if_pos hb, if_pos hb, if_pos (show c.toNat < 32 by omega), gath_below hn]
    have ht : c.toNat = 31 - s.length := by rw [hs]; unfold intN; rw [if_pos hb]; omega
    have hy : 18446744073709551616 - 256 ^ s.length + bN s = 18446744073709551615 - (256 ^ s.length - 1 - bN s) := by omega
    obtain ⟨y, hye⟩ : ∃ y, 256 ^ s.length - 1 - bN s = y := ⟨_, rfl⟩
    have hy8 : y < 18446744073709551616 := by omega
    rw [hy, hye]
    by_cases hy63 : y < 9223372036854775808
    · rw [if_neg (by omega)]
      have e1 : ((18446744073709551615 - y : Nat) : Int) - 18446744073709551616 = -1 - (y : Int) := by omega
      rw [e1]
      refine ⟨?_, fun _ => rfl⟩
      have hw := widthN_8 hy8
      unfold putI
      rw [if_neg (by omega), show (-1 - (-1 - (y : Int))).toNat = y by omega]
      constructor
      · intro e
        injection e with e3 e4
        rw [b8_of (by omega) (by omega)] at e3
        exact ⟨by omega, hy63⟩
      · rintro ⟨e3, _⟩
        rw [e3]
        congr 1
        · rw [b8_of (by omega) (by omega)]; omega
        · obtain ⟨k, hk⟩ := pow256_dvd hn
          rw [← hye, ← hy]
          have hk1 : 1 ≤ k := by
            rcases Nat.eq_zero_or_pos k with h0 | h0
            · rw [h0] at hk; omega
            · exact h0
          have : 18446744073709551616 - 256 ^ s.length = (k - 1) * 256 ^ s.length := by
            rw [Nat.sub_mul, ← hk, Nat.one_mul]
          rw [this]
          exact bigB_bN s _
    · rw [if_pos (by omega)]
      refine ⟨?_, fun h => absurd h hy63⟩
      have hw := widthN_8 (x := (((18446744073709551615 - y : Nat)) : Int).toNat) (by omega)
      unfold putI
      rw [if_pos (by omega)]
      constructor
      · intro e
        injection e with e3 e4
        rw [b8_of (by omega) (by omega)] at e3
        omega
      · rintro ⟨_, e⟩; omega
  · rw [if_neg hb, if_neg hb, if_neg (show ¬ c.toNat < 32 by omega), gath_zero hn]
    have ht : c.toNat = 32 + s.length := by rw [hs]; unfold intN; rw [if_neg hb]; omega
    obtain ⟨y, hye⟩ : ∃ y, bN s = y := ⟨_, rfl⟩
    rw [hye] at hX8 ⊢
    by_cases hy63 : y < 9223372036854775808
    · rw [if_pos hy63]
      refine ⟨?_, fun _ => rfl⟩
      have hw := widthN_8 hX8
      unfold putI
      rw [if_pos (by omega), Int.toNat_natCast]
      constructor
      · intro e
        injection e with e3 e4
        rw [b8_of (by omega) (by omega)] at e3
        exact ⟨by omega, hy63⟩
      · rintro ⟨e3, _⟩
        rw [e3]
        congr 1
        · rw [b8_of (by omega) (by omega)]; omega
        · have := bigB_bN s 0
          rw [Nat.zero_mul, Nat.zero_add, hye] at this
          exact this
    · rw [if_neg hy63]
      refine ⟨?_, fun h => absurd h hy63⟩
      have hw := widthN_8 (x := (-1 - ((y : Int) - 18446744073709551616)).toNat) (by omega)
      unfold putI
      rw [if_neg (by omega)]
      constructor
      · intro e
        injection e with e3 e4
        rw [b8_of (by omega) (by omega)] at e3
        omega
      · rintro ⟨_, e⟩; omega
theorem int_short (h : 23 ≤ c.toNat) (h2 : c.toNat ≤ 40) (hs : r.length < intN c.toNat) : getE (c :: r) = 2 := by
  have e := len_int (r := r) h h2
  exact get_short (by omega) (by simp; omega)
theorem int_get (h : 23 ≤ c.toNat) (h2 : c.toNat ≤ 40) (hs : intN c.toNat ≤ r.length) (x : Nat) (hx : x = intX c.toNat (bN (r.take (intN c.toNat))) (intN c.toNat)) :
    (widthN x = intN c.toNat ∧ x < 9223372036854775808 → getE (c :: r) = 0 ∧ lenB (c :: r) = intN c.toNat + 1 ∧ getV (c :: r) = { Vl.zero with kind := 2, int := intV c.toNat x }) ∧
    (¬ (widthN x = intN c.toNat ∧ x < 9223372036854775808) → getE (c :: r) = 5) := by
  have e := len_int (r := r) h h2
  have hsl : (r.take (intN c.toNat)).length = intN c.toNat := by simp; omega
  obtain ⟨k1, k2⟩ := int_law (s := r.take (intN c.toNat)) h h2 hsl
  rw [hsl, ← hx] at k1 k2
  have et : (c :: r).take (lenB (c :: r)) = c :: r.take (intN c.toNat) := by rw [e, List.take_succ_cons]
  constructor
  · intro hh
    refine ⟨get_fine (by omega) (by rw [e]; simp; omega) ?_, e, ?_⟩
    · rw [et]; exact k1.2 hh
    · unfold getV; rw [et]; exact k2 hh.2
  · intro hh
    refine get_form (by omega) (by rw [e]; simp; omega) ?_
    rw [et]
    exact fun he => hh (k1.1 he)
theorem real_get (h : c.toNat = 48) :
    (r.length < 8 → getE (c :: r) = 2) ∧ (8 ≤ r.length → lenB (c :: r) = 9 ∧ (rankN (unrankN (bN (r.take 8))) = bN (r.take 8) → getE (c :: r) = 0 ∧ getV (c :: r) = { Vl.zero with kind := 3, real := unrankN (bN (r.take 8)) }) ∧ (¬ rankN (unrankN (bN (r.take 8))) = bN (r.take 8) → getE (c :: r) = 5)) := by
  have e : lenB (c :: r) = 9 := by
    unfold lenB
    simp [h]
  refine ⟨fun hl => get_short (by omega) (by simp; omega), fun hl => ⟨e, ?_⟩⟩
  have hsl : (r.take 8).length = 8 := by simp; omega
  have et : (c :: r).take (lenB (c :: r)) = c :: r.take 8 := by rw [e, List.take_succ_cons]
  have ev : valB (c :: r.take 8) = { Vl.zero with kind := 3, real := unrankN (bN (r.take 8)) } := by
    unfold valB
    simp [h, List.take_take]
  have hX := bN_lt8 (b := r.take 8) (by omega)
  have hc : c = 48 := UInt8.toNat_inj.1 h
  have hp : putB { Vl.zero with kind := 3, real := unrankN (bN (r.take 8)) } = 48 :: bigB (rankN (unrankN (bN (r.take 8)))) 8 := by
    unfold putB
    simp [Vl.zero]
  have hb : bigB (bN (r.take 8)) 8 = r.take 8 := by
    have := bigB_bN (r.take 8) 0
    rwa [Nat.zero_mul, Nat.zero_add, hsl] at this
  have hk : putB (valB ((c :: r).take (lenB (c :: r)))) = (c :: r).take (lenB (c :: r)) ↔ rankN (unrankN (bN (r.take 8))) = bN (r.take 8) := by
    rw [et, ev, hp, hc]
    constructor
    · intro he
      injection he with _ he
      refine bigB_inj (n := 8) ?_ ?_ (he.trans hb.symm)
      · rw [pow_256_8]; exact rankN_bd (unrankN_bd hX)
      · rw [pow_256_8]; exact hX
    · intro he
      rw [he, hb]
  refine ⟨fun hh => ⟨get_fine (by omega) (by rw [e]; simp; omega) (hk.2 hh), by unfold getV; rw [et, ev]⟩, fun hh => get_form (by omega) (by rw [e]; simp; omega) (fun he => hh (hk.1 he))⟩
theorem point_get (h : c.toNat = 56) :
    (r.length < 16 → getE (c :: r) = 2) ∧ (16 ≤ r.length → lenB (c :: r) = 17 ∧ (rankN (unrankN (bN (r.take 8))) = bN (r.take 8) ∧ rankN (unrankN (bN ((r.drop 8).take 8))) = bN ((r.drop 8).take 8) → getE (c :: r) = 0 ∧ getV (c :: r) = { Vl.zero with kind := 4, re := unrankN (bN (r.take 8)), im := unrankN (bN ((r.drop 8).take 8)) }) ∧
      (¬ (rankN (unrankN (bN (r.take 8))) = bN (r.take 8) ∧ rankN (unrankN (bN ((r.drop 8).take 8))) = bN ((r.drop 8).take 8)) → getE (c :: r) = 5)) := by
  have e : lenB (c :: r) = 17 := by
    unfold lenB
    simp [h]
  refine ⟨fun hl => get_short (by omega) (by simp; omega), fun hl => ⟨e, ?_⟩⟩
  have hsl : (r.take 8).length = 8 := by simp; omega
  have hsl2 : ((r.drop 8).take 8).length = 8 := by simp; omega
  have et : (c :: r).take (lenB (c :: r)) = c :: r.take 16 := by rw [e, List.take_succ_cons]
  have e16 : r.take 16 = r.take 8 ++ (r.drop 8).take 8 := by rw [show 16 = 8 + 8 by rfl, List.take_add]
  have ev : valB (c :: r.take 16) = { Vl.zero with kind := 4, re := unrankN (bN (r.take 8)), im := unrankN (bN ((r.drop 8).take 8)) } := by
    unfold valB
    simp [h, List.take_take, List.drop_take]
  have hX := bN_lt8 (b := r.take 8) (by omega)
  have hY := bN_lt8 (b := (r.drop 8).take 8) (by omega)
  have hc : c = 56 := UInt8.toNat_inj.1 h
  have hp : putB { Vl.zero with kind := 4, re := unrankN (bN (r.take 8)), im := unrankN (bN ((r.drop 8).take 8)) } = 56 :: (bigB (rankN (unrankN (bN (r.take 8)))) 8 ++ bigB (rankN (unrankN (bN ((r.drop 8).take 8)))) 8) := by
    unfold putB
    simp [Vl.zero]
  have hb : bigB (bN (r.take 8)) 8 = r.take 8 := by
    have := bigB_bN (r.take 8) 0
    rwa [Nat.zero_mul, Nat.zero_add, hsl] at this
  have hb2 : bigB (bN ((r.drop 8).take 8)) 8 = (r.drop 8).take 8 := by
    have := bigB_bN ((r.drop 8).take 8) 0
    rwa [Nat.zero_mul, Nat.zero_add, hsl2] at this
  have hk : putB (valB ((c :: r).take (lenB (c :: r)))) = (c :: r).take (lenB (c :: r)) ↔ rankN (unrankN (bN (r.take 8))) = bN (r.take 8) ∧ rankN (unrankN (bN ((r.drop 8).take 8))) = bN ((r.drop 8).take 8) := by
    rw [et, ev, hp, hc, e16]
    constructor
    · intro he
      injection he with _ he
      obtain ⟨h1, h2⟩ := List.append_inj he (by rw [length_bigB, hsl])
      refine ⟨bigB_inj (n := 8) ?_ ?_ (h1.trans hb.symm), bigB_inj (n := 8) ?_ ?_ (h2.trans hb2.symm)⟩
      · rw [pow_256_8]; exact rankN_bd (unrankN_bd hX)
      · rw [pow_256_8]; exact hX
      · rw [pow_256_8]; exact rankN_bd (unrankN_bd hY)
      · rw [pow_256_8]; exact hY
    · rintro ⟨he, he2⟩
      rw [he, hb, he2, hb2]
  refine ⟨fun hh => ⟨get_fine (by omega) (by rw [e]; simp; omega) (hk.2 hh), by unfold getV; rw [et, ev]⟩, fun hh => get_form (by omega) (by rw [e]; simp; omega) (fun he => hh (hk.1 he))⟩
theorem text_get (h : c.toNat = 64) : lenB (c :: r) = 1 + txtL r ∧ (r.length < txtL r → getE (c :: r) = 2) ∧ (txtL r ≤ r.length → getE (c :: r) = 0 ∧ getV (c :: r) = { Vl.zero with kind := 5, text := unT r }) := by
  have e : lenB (c :: r) = 1 + txtL r := by
    unfold lenB
    simp [h]
  refine ⟨e, fun hl => get_short (by omega) (by simp; omega), fun hl => ?_⟩
  have et : (c :: r).take (lenB (c :: r)) = c :: (escB (unT r) ++ [0]) := by rw [e, Nat.add_comm, List.take_succ_cons, txt_take r hl]
  have hc : c = 64 := UInt8.toNat_inj.1 h
  have ev : valB (c :: (escB (unT r) ++ [0])) = { Vl.zero with kind := 5, text := unT r } := by
    unfold valB
    simp [h, (txt_esc (unT r) [] (by simp)).2]
  refine ⟨get_fine (by omega) (by rw [e]; simp; omega) ?_, by unfold getV; rw [et, ev]⟩
  rw [et, ev, hc]
  unfold putB
  simp [Vl.zero]
theorem nil_get (h : c.toNat = 1) : lenB (c :: r) = 1 ∧ getE (c :: r) = 0 ∧ getV (c :: r) = Vl.zero := by
  have e : lenB (c :: r) = 1 := by
    unfold lenB
    simp [h]
  have hc : c = 1 := UInt8.toNat_inj.1 h
  have et : (c :: r).take (lenB (c :: r)) = [c] := by rw [e]; rfl
  have ev : valB [c] = Vl.zero := by
    unfold valB
    simp [h]
  refine ⟨e, get_fine (by omega) (by rw [e]; simp) ?_, by unfold getV; rw [et, ev]⟩
  rw [et, ev, hc]
  rfl
theorem bool_get (h : c.toNat = 2 ∨ c.toNat = 3) : lenB (c :: r) = 1 ∧ getE (c :: r) = 0 ∧ getV (c :: r) = { Vl.zero with kind := 1, bool := decide (c.toNat = 3) } := by
  have e : lenB (c :: r) = 1 := by
    unfold lenB
    simp only
    rw [if_pos (by omega)]
  have et : (c :: r).take (lenB (c :: r)) = [c] := by rw [e]; rfl
  have ev : valB [c] = { Vl.zero with kind := 1, bool := decide (c.toNat = 3) } := by
    unfold valB
    simp only
    rw [if_neg (by omega), if_pos (by omega)]
  refine ⟨e, get_fine (by omega) (by rw [e]; simp) ?_, by unfold getV; rw [et, ev]⟩
  rw [et, ev]
  rcases h with h | h
  · have hc : c = 2 := UInt8.toNat_inj.1 h
    subst hc
    rfl
  · have hc : c = 3 := UInt8.toNat_inj.1 h
    subst hc
    rfl
theorem else_get (h1 : ¬ (1 ≤ c.toNat ∧ c.toNat ≤ 3)) (h2 : ¬ (23 ≤ c.toNat ∧ c.toNat ≤ 40)) (h3 : ¬ c.toNat = 48) (h4 : ¬ c.toNat = 56) (h5 : ¬ c.toNat = 64) : lenB (c :: r) = 0 ∧ getE (c :: r) = 5 := by
  have e : lenB (c :: r) = 0 := by
    unfold lenB
    simp only
    rw [if_neg h1, if_neg (by omega), if_neg (by omega), if_neg h3, if_neg h4, if_neg h5]
  exact ⟨e, get_none e⟩
end
end Go.Proofs.Ytbjfgnkjmfcokaa
