/- Layer 3: contracts of the functions that read numbers of bytes. No condition but that the bytes lie in memory. -/
import Derived.Test.YtbjfgnkjmfcokaaTdlaw
import Derived.Test.YtbjfgnkjmfcokaaTbyte
import Derived.Test.YtbjfgnkjmfcokaaTencw
import Derived.Test.YtbjfgnkjmfcokaaSpanb
namespace Go.Proofs.Ytbjfgnkjmfcokaa
open Go.RowKit Go.Proofs
set_option linter.unusedVariables false
theorem u64_gath {y : Nat} (hy : y < 18446744073709551616) (c : UInt8) : bits .or .u64 ((y : Int) * 256 % 18446744073709551616) (c.toNat : Int) = (gath y c : Int) := by
  have hc := c.toNat_lt
  have e : (y : Int) * 256 % 18446744073709551616 = ((y * 256 % 18446744073709551616 : Nat) : Int) := by omega
  rw [e, u64_or_nat _ _ (by omega) (by omega)]
  unfold gath
  congr 1
  have h2 : y * 256 % 18446744073709551616 = 2 ^ 8 * (y * 256 % 18446744073709551616 / 256) := by omega
  have h3 := Nat.two_pow_add_eq_or_of_lt (i := 8) (b := c.toNat) (by omega) (y * 256 % 18446744073709551616 / 256)
  rw [h2, ← h3]
theorem u64_gathW {y : Nat} (hy : y < 18446744073709551616) (c : UInt8) : bits .or .u64 (IntKind.u64.wrap ((y : Int) * 256)) (IntKind.u64.wrap (c.toNat : Int)) = (gath y c : Int) := by
  have hc := c.toNat_lt
  rw [IntKind.wrap_u64, IntKind.wrap_u64, show (c.toNat : Int) % 18446744073709551616 = (c.toNat : Int) by omega]
  exact u64_gath hy c
section
variable {w : World} {A : Option Addr} {c : Nat} {bs : List UInt8}
set_option maxRecDepth 20000 in
set_option maxHeartbeats 400000 in
theorem number_any (h : Sl w A c bs) : Calls Try.prog 79 #[.slice A bs.length c] w fun e w' => e = .returned (.int .u64 (bs.foldl gath 0 : Nat)) ∧ w = w' := by
  have hl := h.len
  obtain ⟨q, hq⟩ : ∃ q, bs.foldl gath 0 = q := ⟨_, rfl⟩
  rw [hq]
  have HQ := Lib.hid hq
  clear hq
  go_enter Try.func79, Try.ntmps79
  go_wp2
  go_loopw [3, 8] (fun u i wr => ∃ (k y : Nat), u = .int .u64 y ∧ i = .int .i64 k ∧ k ≤ bs.length ∧ y < 18446744073709551616 ∧ Hid ((bs.drop k).foldl gath y = q) ∧ w = wr) (fun _ i _ => bs.length - (intOf i).toNat)
  case atStart => exact ⟨0, 0, rfl, rfl, Nat.zero_le _, by omega, Lib.hid HQ.out, rfl⟩
  case round =>
    obtain ⟨k, y, rfl, rfl, hk, hy, HT, rfl⟩ := hrel
    by_cases hlt : k < bs.length
    · obtain ⟨b, off, rfl, hc⟩ := h.rd (by omega)
      obtain ⟨x, hx⟩ : ∃ x, bs[k] = x := ⟨_, rfl⟩
      have hat : at8 bs k = (x.toNat : Int) := by simp [at8, hlt, hx]
      have hck := hc k hlt
      rw [hat] at hck
      have HT2 : Hid ((bs.drop (k + 1)).foldl gath (gath y x) = q) := Lib.hid (by rw [← HT.out, List.drop_eq_getElem_cons hlt, hx]; rfl)
      have hor := u64_gathW hy x
      have hgl := gath_lt y x
      clear hc hx hat HT
      go_wp2
      go_roundw
      case rel => exact ⟨k + 1, gath y x, by go_num, by go_num, by omega, hgl, HT2, trivial⟩
      case measure => first | (simp [intOf]; done) | (simp [intOf]; omega)
    · obtain rfl : k = bs.length := by omega
      have HY : Hid (y = q) := Lib.hid (by rw [← HT.out]; simp)
      go_wp2
      go_ret
      exact ⟨by rw [← HY.out]; rfl, rfl⟩
set_option maxRecDepth 20000 in
set_option maxHeartbeats 400000 in
theorem getReal_any (h : Sl w A c bs) (h8 : 8 ≤ bs.length) : Calls Try.prog 67 #[.slice A bs.length c] w fun e w' => e = .returned (.int .u64 (unrankN (bN (bs.take 8)))) ∧ w = w' := by
  have hl := h.len
  have hl8 : (bs.take 8).length = 8 := by simp; omega
  have hX := bN_lt8 (b := bs.take 8) (by omega)
  obtain ⟨q, hq⟩ : ∃ q, bN (bs.take 8) = q := ⟨_, rfl⟩
  have hq2 : (bs.take 8).foldl gath 0 = q := by rw [gath_zero (by omega), hq]
  rw [hq] at hX ⊢
  obtain ⟨z, hz⟩ : ∃ z, unrankN q = z := ⟨_, rfl⟩
  rw [hz]
  have HZ := Lib.hid hz
  have HQ := Lib.hid hq2
  have HL := Lib.hid hl8
  clear hq hq2 hl8 hz
  go_enter Try.func67, Try.ntmps67
  go_wp2
  go_loopw [3, 4] (fun u i wr => ∃ (k y : Nat), u = .int .u64 y ∧ i = .int .i64 k ∧ k ≤ 8 ∧ y < 18446744073709551616 ∧ Hid (((bs.take 8).drop k).foldl gath y = q) ∧ w = wr) (fun _ i _ => 8 - (intOf i).toNat)
  case atStart => exact ⟨0, 0, rfl, rfl, Nat.zero_le _, by omega, Lib.hid HQ.out, rfl⟩
  case round =>
    obtain ⟨k, y, rfl, rfl, hk, hy, HT, rfl⟩ := hrel
    by_cases hlt : k < 8
    · have hkb : k < bs.length := by omega
      obtain ⟨b, off, rfl, hc⟩ := h.rd (by omega)
      obtain ⟨x, hx⟩ : ∃ x, bs[k] = x := ⟨_, rfl⟩
      have hat : at8 bs k = (x.toNat : Int) := by simp [at8, hkb, hx]
      have hck := hc k hkb
      rw [hat] at hck
      have HT2 : Hid (((bs.take 8).drop (k + 1)).foldl gath (gath y x) = q) := Lib.hid (by
        rw [← HT.out, List.drop_eq_getElem_cons (show k < (bs.take 8).length by rw [HL.out]; exact hlt), List.getElem_take, hx]; rfl)
      have hor := u64_gathW hy x
      have hgl := gath_lt y x
      clear hc hx hat HT
      go_wp2
      go_roundw
      case rel => exact ⟨k + 1, gath y x, by go_num, by go_num, by omega, hgl, HT2, trivial⟩
      case measure => first | (simp [intOf]; done) | (simp [intOf]; omega)
    · obtain rfl : k = 8 := by omega
      have hy2 : y = q := by
        have := HT.out
        rw [List.drop_eq_nil_of_le (by rw [HL.out]; omega)] at this
        simpa using this
      subst hy2
      clear HT HL HQ
      by_cases hb : 9223372036854775808 ≤ y
      · have hu : unrankN y = y - 9223372036854775808 := by unfold unrankN; rw [if_pos hb]
        rw [HZ.out] at hu
        have h1 := u64_xorTop (x := (y : Int)) (by omega) (by omega)
        rw [if_neg (by omega)] at h1
        have hzi : (y : Int) - 9223372036854775808 = (z : Int) := by omega
        rw [hzi] at h1
        have hd : (y : Int) / 9223372036854775808 = 1 := by omega
        clear hu hb
        go_wp2
        go_ret
        exact ⟨rfl, rfl⟩
      · have hu : unrankN y = 18446744073709551615 - y := by unfold unrankN; rw [if_neg hb]
        rw [HZ.out] at hu
        have h1 := u64_not (x := (y : Int)) (by omega) (by omega)
        have hzi : 18446744073709551615 - (y : Int) = (z : Int) := by omega
        rw [hzi] at h1
        have hd : (y : Int) / 9223372036854775808 = 0 := by omega
        clear hu hb
        go_wp2
        go_ret
        exact ⟨rfl, rfl⟩
theorem Sl.cutAt (h : Sl w A c bs) (k : Nat) (hk : k ≤ bs.length) : Sl w A c (bs.take k) := h.take k c (by have := h.le; simp; omega) h.cap
theorem ret_fb {x y : Nat} {p q : Bool} (h : x = y) (h2 : p = q) : Ending.returned (.tuple #[.float .f64 x, .bool p]) = .returned (.tuple #[.float .f64 y, .bool q]) := by rw [h, h2]
set_option maxRecDepth 20000 in
set_option maxHeartbeats 400000 in
theorem fraction_any (h : Sl w A c bs) (h8 : 8 ≤ bs.length) : Calls Try.prog 80 #[.slice A bs.length c] w fun e w' => e = .returned (.tuple #[.float .f64 (unrankN (bN (bs.take 8))), .bool (decide (rankN (unrankN (bN (bs.take 8))) = bN (bs.take 8)))]) ∧ w = w' := by
  have hl := h.len
  have hle := h.le
  have hl8 : (bs.take 8).length = 8 := by simp; omega
  have hX := bN_lt8 (b := bs.take 8) (by omega)
  have HN := number_any (h.cutAt 8 h8)
  rw [hl8, gath_zero (by omega)] at HN
  clear hl8
  generalize bN (bs.take 8) = q at *
  have hU := unrankN_bd hX
  have HR := @rank_any w (unrankN q) hU
  have HC : Hid (decide (rankN (unrankN q) = q) = (((rankN (unrankN q) : Nat) : Int) == (q : Int))) := Lib.hid (by
    rw [Bool.eq_iff_iff]; simp; omega)
  go_enter Try.func80, Try.ntmps80
  go_wp2_with fail
  refine HN.mono ?_
  rintro e w1 ⟨rfl, rfl⟩
  clear HN
  go_wp2_with fail
  refine (unrank_any hX).mono ?_
  rintro e w1 ⟨rfl, rfl⟩
  go_wp2_with fail
  refine HR.mono ?_
  rintro e w1 ⟨rfl, rfl⟩
  go_wp2
  refine bodyPost_ret (results_tmp2 rfl _ _ _) rfl ?_
  exact ⟨by rw [HC.out]; rfl, rfl⟩
end
end Go.Proofs.Ytbjfgnkjmfcokaa
