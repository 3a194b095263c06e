/- Layer 3: what is laid is read again, and is ordered as tuples are: plain laws. No program. -/
import Derived.Test.YtbjfgnkjmfcokaaTdeco
import Derived.Test.YtbjfgnkjmfcokaaTcmpl
import Derived.Test.YtbjfgnkjmfcokaaSpanl
namespace Go.Proofs.Ytbjfgnkjmfcokaa
open Go.RowKit Go.Proofs
set_option linter.unusedVariables false
/-- The kinds of values. -/
theorem valid_cases {v : Vl} (h : validV v = true) : v = Vl.zero ∨ (∃ b, v = { Vl.zero with kind := 1, bool := b }) ∨ (∃ i, v = { Vl.zero with kind := 2, int := i }) ∨ (∃ x, v = { Vl.zero with kind := 3, real := x }) ∨ (∃ x y, v = { Vl.zero with kind := 4, re := x, im := y }) ∨ (∃ t, v = { Vl.zero with kind := 5, text := t }) := by
  obtain ⟨k, b, i, r, e, m, t⟩ := v
  unfold validV at h
  simp only [Bool.and_eq_true, decide_eq_true_eq, Bool.or_eq_true, beq_iff_eq, Bool.not_eq_true'] at h
  obtain ⟨⟨⟨⟨⟨⟨h1, h2⟩, h3⟩, h4⟩, h5⟩, h6⟩, h7⟩ := h
  have hk : k = 0 ∨ k = 1 ∨ k = 2 ∨ k = 3 ∨ k = 4 ∨ k = 5 := by omega
  rcases hk with rfl | rfl | rfl | rfl | rfl | rfl <;> simp_all [Vl.zero]
theorem put_zero : putB Vl.zero = [1] := rfl
theorem put_bool (b : Bool) : putB { Vl.zero with kind := 1, bool := b } = [if b then 3 else 2] := rfl
theorem put_real (x : Nat) : putB { Vl.zero with kind := 3, real := x } = 48 :: bigB (rankN x) 8 := by simp [putB, Vl.zero]
theorem put_point (x y : Nat) : putB { Vl.zero with kind := 4, re := x, im := y } = 56 :: (bigB (rankN x) 8 ++ bigB (rankN y) 8) := by simp [putB, Vl.zero]
theorem put_text (t : List UInt8) : putB { Vl.zero with kind := 5, text := t } = 64 :: (escB t ++ [0]) := by simp [putB, Vl.zero]
theorem valB_valid (b : List UInt8) : validV (valB b) = true := by
  match b with
  | [] => rfl
  | c :: r =>
    unfold valB
    simp only
    split
    · rfl
    split
    · simp [validV, Vl.zero]
    split
    · simp [validV, Vl.zero]
    split
    · simp [validV, Vl.zero]
    split
    · simp [validV, Vl.zero]
    · simp [validV, Vl.zero]
theorem getE_put {b : List UInt8} (h : getE b = 0) : putB (getV b) = b.take (lenB b) := by
  unfold getE at h
  split at h
  · cases h
  · split at h
    · cases h
    · split at h
      · rename_i e
        exact e
      · cases h
/-- What is read lays the same bytes. -/
theorem dec_enc : ∀ (n : Nat) (b : List UInt8), b.length ≤ n → (decL b).2 = 0 → encB (decL b).1 = b ∧ (decL b).1.all validV = true
  | n, [], _, _ => by rw [decL_nil]; exact ⟨rfl, rfl⟩
  | 0, x :: r, h, _ => by simp at h
  | n + 1, x :: r, h, h0 => by
    by_cases hg : getE (x :: r) = 0
    · obtain ⟨h1, h2⟩ := lenB_pos hg
      rw [decL_step (by simp) hg] at h0 ⊢
      simp only at h0 ⊢
      rw [if_pos h0]
      obtain ⟨k1, k2⟩ := dec_enc n ((x :: r).drop (lenB (x :: r))) (by rw [List.length_drop]; omega) h0
      refine ⟨?_, ?_⟩
      · have e : encB (getV (x :: r) :: (decL ((x :: r).drop (lenB (x :: r)))).1) = putB (getV (x :: r)) ++ encB (decL ((x :: r).drop (lenB (x :: r)))).1 := by simp [encB]
        rw [e, k1, getE_put hg, List.take_append_drop]
      · rw [List.all_cons, k2]
        simp only [Bool.and_true]
        exact valB_valid _
    · rw [decL_fail (by simp) hg] at h0
      exact absurd h0 hg
theorem put_head {v : Vl} (ho : v.Ok) (r : List UInt8) : (putB v ++ r).head? ≠ some 255 := by
  have hI : ∀ i : Int, -9223372036854775808 ≤ i ∧ i ≤ 9223372036854775807 → (putI i ++ r).head? ≠ some 255 := fun i hi => by
    unfold putI
    split
    · have := widthN_8 (x := i.toNat) (by omega)
      simp only [List.cons_append, List.head?_cons, ne_eq, Option.some.injEq]
      rw [b8_of (by omega) (by omega)]
      simp
      omega
    · have := widthN_8 (x := (-1 - i).toNat) (by omega)
      simp only [List.cons_append, List.head?_cons, ne_eq, Option.some.injEq]
      rw [b8_of (by omega) (by omega)]
      simp
      omega
  unfold putB
  split
  · simp
  split
  · split <;> simp
  split
  · exact hI _ ho.int
  split
  · simp
  split
  · simp
  · simp
theorem encB_head {l : List Vl} (ho : ∀ v ∈ l, v.Ok) : (encB l).head? ≠ some 255 := by
  cases l with
  | nil => simp [encB]
  | cons v l =>
    have e : encB (v :: l) = putB v ++ encB l := by simp [encB]
    rw [e]
    exact put_head (ho v (by simp)) _
theorem encB_cons (v : Vl) (l : List Vl) : encB (v :: l) = putB v ++ encB l := by simp [encB]
theorem oneN_0 : oneN 0 = 0 := by decide
theorem rank_one {x : Nat} (h : x < 18446744073709551616) : rankN (unrankN (rankN x)) = rankN x := by
  have h2 := rankN_bd h
  rw [unrank_rank h]
  have : oneN (oneN x) = oneN x := by
    unfold oneN
    split
    · simp [nanN]
    · rfl
  unfold rankN
  rw [this]
theorem bN_rank {x : Nat} (h : x < 18446744073709551616) : bN (bigB (rankN x) 8) = rankN x := by
  rw [bN_bigB, pow_256_8, Nat.mod_eq_of_lt (rankN_bd h)]
theorem take_bigB (x n : Nat) (r : List UInt8) : (bigB x n ++ r).take n = bigB x n := by
  rw [List.take_append_of_le_length (by rw [length_bigB]; exact Nat.le_refl _), List.take_of_length_le (by rw [length_bigB]; exact Nat.le_refl _)]
theorem lt_width (x : Nat) : x < 256 ^ widthN x := (widthN_le _ _).1 (Nat.le_refl _)
theorem neg_mod {y n : Nat} (hn : n ≤ 8) (hy : y < 256 ^ n) : (18446744073709551615 - y) % 256 ^ n = 256 ^ n - 1 - y := by
  obtain ⟨k, hk⟩ := pow256_dvd hn
  have hk1 : 1 ≤ k := by
    rcases Nat.eq_zero_or_pos k with h0 | h0
    · rw [h0] at hk; omega
    · exact h0
  have e : 18446744073709551615 - y = (256 ^ n - 1 - y) + (k - 1) * 256 ^ n := by
    rw [Nat.sub_mul, ← hk, Nat.one_mul]
    have : 256 ^ n ≤ 18446744073709551616 := by rw [← pow_256_8]; exact Nat.pow_le_pow_right (by omega) hn
    omega
  rw [e, Nat.add_mul_mod_self_right, Nat.mod_eq_of_lt (by omega)]
theorem drop_len {α : Type} (a b : List α) : (a ++ b).drop a.length = b := by simp
/-- What is laid of a value is read as the value. -/
theorem put_get {v : Vl} (hv : validV v = true) (ho : v.Ok) {r : List UInt8} (hr : r.head? ≠ some 255) : getE (putB v ++ r) = 0 ∧ lenB (putB v ++ r) = (putB v).length ∧ getV (putB v ++ r) = sameV v := by
  have hsame : sameV v = { v with real := oneN v.real, re := oneN v.re, im := oneN v.im } := by unfold sameV; rw [if_pos hv]
  rw [hsame]
  clear hsame
  rcases valid_cases hv with rfl | ⟨b, rfl⟩ | ⟨i, rfl⟩ | ⟨x, rfl⟩ | ⟨x, y, rfl⟩ | ⟨t, rfl⟩
  · obtain ⟨h1, h2, h3⟩ := nil_get (c := 1) (r := r) rfl
    rw [put_zero]
    exact ⟨h2, h1, h3⟩
  · rw [put_bool]
    cases b with
    | false =>
      obtain ⟨h1, h2, h3⟩ := bool_get (c := 2) (r := r) (by decide)
      exact ⟨h2, h1, h3⟩
    | true =>
      obtain ⟨h1, h2, h3⟩ := bool_get (c := 3) (r := r) (by decide)
      exact ⟨h2, h1, h3⟩
  · rw [put_int_kind]
    have hi : -9223372036854775808 ≤ i ∧ i ≤ 9223372036854775807 := ho.int
    unfold putI
    split
    · rename_i h0
      obtain ⟨n, hn⟩ : ∃ n, i.toNat = n := ⟨_, rfl⟩
      rw [hn]
      have hw := widthN_8 (x := n) (by omega)
      have hlt := lt_width n
      obtain ⟨w, hwe⟩ : ∃ w, widthN n = w := ⟨_, rfl⟩
      rw [hwe] at hw hlt ⊢
      have hc : (b8 (32 + (w : Int))).toNat = 32 + w := by
        have := b8_toNat (32 + (w : Int))
        omega
      have hN : intN (b8 (32 + (w : Int))).toNat = w := by rw [hc]; unfold intN; split <;> omega
      have hx : n = intX (b8 (32 + (w : Int))).toNat (bN ((bigB n w ++ r).take (intN (b8 (32 + (w : Int))).toNat))) (intN (b8 (32 + (w : Int))).toNat) := by
        rw [hN, take_bigB, bN_bigB, Nat.mod_eq_of_lt hlt, hc]
        unfold intX
        rw [if_neg (by omega)]
      obtain ⟨h1, _⟩ := int_get (c := b8 (32 + (w : Int))) (r := bigB n w ++ r) (by omega) (by omega) (by rw [hN]; simp [length_bigB]) n hx
      rw [hN] at h1
      obtain ⟨a1, a2, a3⟩ := h1 ⟨hwe, by omega⟩
      refine ⟨a1, ?_, ?_⟩
      · rw [List.cons_append, a2]; simp [length_bigB]
      · rw [List.cons_append, a3]
        have : intV (b8 (32 + (w : Int))).toNat n = i := by unfold intV; rw [if_neg (by omega)]; omega
        rw [this]
        simp [Vl.zero, oneN_0]
    · rename_i h0
      obtain ⟨n, hn⟩ : ∃ n, (-1 - i).toNat = n := ⟨_, rfl⟩
      rw [hn]
      have hw := widthN_8 (x := n) (by omega)
      have hlt := lt_width n
      obtain ⟨w, hwe⟩ : ∃ w, widthN n = w := ⟨_, rfl⟩
      rw [hwe] at hw hlt ⊢
      have hc : (b8 (31 - (w : Int))).toNat = 31 - w := by
        have := b8_toNat (31 - (w : Int))
        omega
      have hN : intN (b8 (31 - (w : Int))).toNat = w := by rw [hc]; unfold intN; split <;> omega
      have hx : n = intX (b8 (31 - (w : Int))).toNat (bN ((bigB (18446744073709551615 - n) w ++ r).take (intN (b8 (31 - (w : Int))).toNat))) (intN (b8 (31 - (w : Int))).toNat) := by
        rw [hN, take_bigB, bN_bigB, neg_mod hw hlt, hc]
        unfold intX
        rw [if_pos (by omega)]
        omega
      obtain ⟨h1, _⟩ := int_get (c := b8 (31 - (w : Int))) (r := bigB (18446744073709551615 - n) w ++ r) (by omega) (by omega) (by rw [hN]; simp [length_bigB]) n hx
      rw [hN] at h1
      obtain ⟨a1, a2, a3⟩ := h1 ⟨hwe, by omega⟩
      refine ⟨a1, ?_, ?_⟩
      · rw [List.cons_append, a2]; simp [length_bigB]
      · rw [List.cons_append, a3]
        have : intV (b8 (31 - (w : Int))).toNat n = i := by unfold intV; rw [if_pos (by omega)]; omega
        rw [this]
        simp [Vl.zero, oneN_0]
  · rw [put_real]
    have hx : x < 18446744073709551616 := ho.real
    obtain ⟨_, h1⟩ := real_get (c := 48) (r := bigB (rankN x) 8 ++ r) rfl
    obtain ⟨h2, h3, _⟩ := h1 (by simp [length_bigB])
    rw [take_bigB, bN_rank hx] at h3
    obtain ⟨h4, h5⟩ := h3 (rank_one hx)
    refine ⟨h4, ?_, ?_⟩
    · rw [List.cons_append, h2]; simp [length_bigB]
    · rw [List.cons_append, h5, unrank_rank hx]; simp [Vl.zero, oneN_0]
  · rw [put_point]
    have hx : x < 18446744073709551616 := ho.re
    have hy : y < 18446744073709551616 := ho.im
    obtain ⟨_, h1⟩ := point_get (c := 56) (r := bigB (rankN x) 8 ++ (bigB (rankN y) 8 ++ r)) rfl
    obtain ⟨h2, h3, _⟩ := h1 (by simp [length_bigB]; omega)
    have hd : (bigB (rankN x) 8 ++ (bigB (rankN y) 8 ++ r)).drop 8 = bigB (rankN y) 8 ++ r := by
      have := drop_len (bigB (rankN x) 8) (bigB (rankN y) 8 ++ r)
      rwa [length_bigB] at this
    rw [hd, take_bigB, take_bigB, bN_rank hx, bN_rank hy] at h3
    obtain ⟨h4, h5⟩ := h3 ⟨rank_one hx, rank_one hy⟩
    rw [List.cons_append, List.append_assoc]
    refine ⟨h4, ?_, ?_⟩
    · rw [h2]; simp [length_bigB]
    · rw [h5, unrank_rank hx, unrank_rank hy]; simp [Vl.zero, oneN_0]
  · rw [put_text]
    obtain ⟨h1, _, h3⟩ := text_get (c := 64) (r := escB t ++ 0 :: r) rfl
    obtain ⟨e1, e2⟩ := txt_esc t r hr
    rw [e1] at h1 h3
    rw [e2] at h3
    obtain ⟨h4, h5⟩ := h3 (by simp)
    have e : (64 : UInt8) :: (escB t ++ [0]) ++ r = 64 :: (escB t ++ 0 :: r) := by simp
    rw [e]
    refine ⟨h4, ?_, ?_⟩
    · rw [h1]; simp; omega
    · rw [h5]; simp [Vl.zero, oneN_0]
/-- What is laid of a tuple is read as it. -/
theorem enc_dec : ∀ l : List Vl, l.all validV = true → (∀ v ∈ l, v.Ok) → decL (encB l) = (l.map sameV, 0)
  | [], _, _ => decL_nil
  | v :: l, hv, ho => by
    rw [List.all_cons, Bool.and_eq_true] at hv
    have ih := enc_dec l hv.2 (fun u hu => ho u (List.mem_cons_of_mem _ hu))
    obtain ⟨h1, h2, h3⟩ := put_get hv.1 (ho v (by simp)) (encB_head (l := l) (fun u hu => ho u (List.mem_cons_of_mem _ hu)))
    rw [encB_cons]
    have hp := putB_pos v
    rw [decL_step (by intro e; rw [List.append_eq_nil_iff] at e; rw [e.1] at hp; simp at hp) h1, h2, h3, drop_len, ih]
    rfl
end Go.Proofs.Ytbjfgnkjmfcokaa
