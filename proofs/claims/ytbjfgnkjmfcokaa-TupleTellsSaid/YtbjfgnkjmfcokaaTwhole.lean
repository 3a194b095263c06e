/- Layer 3: the contract of tuple.whole. No condition but that the bytes lie in memory. -/
import Derived.Test.YtbjfgnkjmfcokaaTlen
namespace Go.Proofs.Ytbjfgnkjmfcokaa
open Go.RowKit Go.Proofs
set_option linter.unusedVariables false
/-- What whole answers. -/
def WholeIs (t : Nat) (r : List UInt8) (i n e : Int) : Prop :=
  (0 ≤ n ∧ n ≤ 8) ∧ (r.length < intN t → e = 2) ∧ (intN t ≤ r.length → (widthN (intX t (bN (r.take (intN t))) (intN t)) = intN t ∧ intX t (bN (r.take (intN t))) (intN t) < 9223372036854775808 → e = 0 ∧ n = (intN t : Int) ∧ i = intV t (intX t (bN (r.take (intN t))) (intN t))) ∧
    (¬ (widthN (intX t (bN (r.take (intN t))) (intN t)) = intN t ∧ intX t (bN (r.take (intN t))) (intN t) < 9223372036854775808) → e = 5))
section
variable {w : World} {A : Option Addr} {c : Nat} {r : List UInt8}
set_option maxRecDepth 20000 in
set_option maxHeartbeats 1000000 in
theorem whole_hi {t n : Nat} (h : Sl w A c r) (hN : intN t = n) (ht : t = 32 + n) (hn : n ≤ 8) : Calls Try.prog 68 #[.int .u8 t, .slice A r.length c] w fun e w' => ∃ (i m e2 : Int), e = .returned (.tuple #[.int .i64 i, .int .i64 m, .int .i64 e2]) ∧ WholeIs t r i m e2 ∧ w = w' := by
  have hl := h.len
  have hle := h.le
  have hti : (t : Int) - 32 = (n : Int) := by omega
  have htl : ¬ (t : Int) ≤ 31 := by omega
  have htb : (t : Int) ≤ 40 := by omega
  by_cases hs : r.length < n
  · have hsi : (r.length : Int) < (n : Int) := by omega
    have HP : Hid (WholeIs t r 0 0 2) := Lib.hid ⟨⟨by omega, by omega⟩, fun _ => rfl, fun h => by omega⟩
    clear hN ht hs
    go_enter Try.func68, Try.ntmps68
    go_wp2
    refine bodyPost_ret (results_tmp3 rfl _ _ _) rfl ⟨0, 0, 2, rfl, HP.out, rfl⟩
  have hs2 : n ≤ r.length := by omega
  have hsl : (r.take n).length = n := by simp; omega
  have hX := bN_lt8 (b := r.take n) (by omega)
  have HNM := number_any (h.cutAt n hs2)
  rw [hsl, gath_zero (by omega)] at HNM
  clear hsl
  obtain ⟨y, hy⟩ : ∃ y, bN (r.take n) = y := ⟨_, rfl⟩
  have HWD := width_any (x := y) (w := w) (by omega)
  have HF : Hid ((widthN y = n → y < 9223372036854775808 → WholeIs t r ((y : Int)) (n : Int) 0) ∧ (¬ (widthN y = n ∧ y < 9223372036854775808) → WholeIs t r 0 0 5)) := Lib.hid (by
    have e1 : intX t (bN (r.take n)) n = y := by unfold intX; rw [if_neg (by omega), hy]
    unfold WholeIs
    rw [hN, e1]
    refine ⟨fun h1 h2 => ⟨⟨by omega, by omega⟩, fun h => by omega, fun _ => ⟨fun _ => ⟨rfl, rfl, by unfold intV; rw [if_neg (by omega)]⟩, fun h => absurd ⟨h1, h2⟩ h⟩⟩, fun h => ⟨⟨by omega, by omega⟩, fun h => by omega, fun _ => ⟨fun h1 => absurd h1 h, fun _ => rfl⟩⟩⟩)
  rw [hy] at HNM hX
  clear hy hN ht hs
  go_enter Try.func68, Try.ntmps68
  go_wp2_with fail
  refine HNM.mono ?_
  rintro e w1 ⟨rfl, rfl⟩
  clear HNM
  by_cases hw : widthN y = n
  · by_cases hx : y < 9223372036854775808
    · have hwi : ((widthN y : Nat) : Int) = (n : Int) := by omega
      have hxi : ¬ (9223372036854775807 < (y : Int)) := by omega
      have hr64 : IntKind.i64.wrap (y : Int) = (y : Int) := by rw [IntKind.wrap_i64]; omega
      have HW := Lib.hid hw
      have HX := Lib.hid hx
      clear hw hx
      go_wp2_with fail
      refine HWD.mono ?_
      rintro e w1 ⟨rfl, rfl⟩
      rw [HW.out]
      clear HWD
      go_wp2
      refine bodyPost_ret (results_tmp3 rfl _ _ _) rfl ⟨(y : Int), (n : Int), 0, rfl, HF.out.1 HW.out HX.out, rfl⟩
    · have hwi : ((widthN y : Nat) : Int) = (n : Int) := by omega
      have hxi : 9223372036854775807 < (y : Int) := by omega
      have HW := Lib.hid hw
      have HX := Lib.hid hx
      clear hw hx
      go_wp2_with fail
      refine HWD.mono ?_
      rintro e w1 ⟨rfl, rfl⟩
      rw [HW.out]
      clear HWD
      go_wp2
      refine bodyPost_ret (results_tmp3 rfl _ _ _) rfl ⟨0, 0, 5, rfl, HF.out.2 (fun h => HX.out h.2), rfl⟩
  · have hwi : ¬ ((widthN y : Nat) : Int) = (n : Int) := by omega
    have HW := Lib.hid hw
    clear hw
    go_wp2_with fail
    refine HWD.mono ?_
    rintro e w1 ⟨rfl, rfl⟩
    clear HWD
    go_wp2
    refine bodyPost_ret (results_tmp3 rfl _ _ _) rfl ⟨0, 0, 5, rfl, HF.out.2 (fun h => HW.out h.1), rfl⟩
set_option maxRecDepth 20000 in
set_option maxHeartbeats 1000000 in
theorem whole_0 (h : Sl w A c r) : Calls Try.prog 68 #[.int .u8 31, .slice A r.length c] w fun e w' => ∃ (i m e2 : Int), e = .returned (.tuple #[.int .i64 i, .int .i64 m, .int .i64 e2]) ∧ WholeIs 31 r i m e2 ∧ w = w' := by
  have hl := h.len
  have hle := h.le
  have hN : intN 31 = 0 := rfl
  have hs2 : 0 ≤ r.length := by omega
  have hsl : (r.take 0).length = 0 := by first | (simp; done) | (simp; omega)
  have hX0 : bN (r.take 0) < 1 := by
    have := bN_lt (r.take 0)
    rw [hsl] at this
    exact Nat.lt_of_lt_of_eq this (by decide)
  have HNM := number_any (h.cutAt 0 hs2)
  rw [hsl, gath_zero (by omega)] at HNM
  clear hsl
  obtain ⟨X, hXe⟩ : ∃ y, bN (r.take 0) = y := ⟨_, rfl⟩
  rw [hXe] at HNM hX0
  obtain ⟨y, hy⟩ : ∃ y, 1 - 1 - X = y := ⟨_, rfl⟩
  obtain ⟨z, hz⟩ : ∃ z, 18446744073709551615 - X = z := ⟨_, rfl⟩
  have hx0 := u64_not (x := (X : Int)) (by omega) (by omega)
  have hzi : 18446744073709551615 - (X : Int) = (z : Int) := by omega
  rw [hzi] at hx0
  have hand : bits .and .u64 (z : Int) 0 = (y : Int) := by
    rw [u64_and_mod 0 0 (by omega) (by omega) (by decide) (by decide), show ((2 : Int) ^ 0) = 1 by decide]
    omega
  have HWD := width_any (x := y) (w := w) (by omega)
  have HF : Hid ((widthN y = 0 → y < 9223372036854775808 → WholeIs 31 r (-1 - (y : Int)) 0 0) ∧ (¬ (widthN y = 0 ∧ y < 9223372036854775808) → WholeIs 31 r 0 0 5)) := Lib.hid (by
    have e1 : intX 31 (bN (r.take 0)) 0 = y := by unfold intX; rw [if_pos (by decide), hXe, show (256 : Nat) ^ 0 = 1 by decide]; exact hy
    unfold WholeIs
    rw [hN, e1]
    refine ⟨fun h1 h2 => ⟨⟨by omega, by omega⟩, fun h => by omega, fun _ => ⟨fun _ => ⟨rfl, rfl, by unfold intV; rw [if_pos (by decide)]⟩, fun h => absurd ⟨h1, h2⟩ h⟩⟩, fun h => ⟨⟨by omega, by omega⟩, fun h => by omega, fun _ => ⟨fun h1 => absurd h1 h, fun _ => rfl⟩⟩⟩)
  clear hXe hN hy hz hzi
  go_enter Try.func68, Try.ntmps68
  go_wp2_with fail
  refine HNM.mono ?_
  rintro e w1 ⟨rfl, rfl⟩
  clear HNM
  by_cases hw : widthN y = 0
  · by_cases hx : y < 9223372036854775808
    · have hwi : ((widthN y : Nat) : Int) = 0 := by omega
      have hxi : ¬ (9223372036854775807 < (y : Int)) := by omega
      have hr64 : IntKind.i64.wrap (y : Int) = (y : Int) := by rw [IntKind.wrap_i64]; omega
      have HW := Lib.hid hw
      have HX := Lib.hid hx
      clear hw hx
      go_wp2_with fail
      refine HWD.mono ?_
      rintro e w1 ⟨rfl, rfl⟩
      rw [HW.out]
      clear HWD
      go_wp2
      refine bodyPost_ret (results_tmp3 rfl _ _ _) rfl ⟨-1 - (y : Int), 0, 0, rfl, HF.out.1 HW.out HX.out, rfl⟩
    · have hwi : ((widthN y : Nat) : Int) = 0 := by omega
      have hxi : 9223372036854775807 < (y : Int) := by omega
      have HW := Lib.hid hw
      have HX := Lib.hid hx
      clear hw hx
      go_wp2_with fail
      refine HWD.mono ?_
      rintro e w1 ⟨rfl, rfl⟩
      rw [HW.out]
      clear HWD
      go_wp2
      refine bodyPost_ret (results_tmp3 rfl _ _ _) rfl ⟨0, 0, 5, rfl, HF.out.2 (fun h => HX.out h.2), rfl⟩
  · have hwi : ¬ ((widthN y : Nat) : Int) = 0 := by omega
    have HW := Lib.hid hw
    clear hw
    go_wp2_with fail
    refine HWD.mono ?_
    rintro e w1 ⟨rfl, rfl⟩
    clear HWD
    go_wp2
    refine bodyPost_ret (results_tmp3 rfl _ _ _) rfl ⟨0, 0, 5, rfl, HF.out.2 (fun h => HW.out h.1), rfl⟩
set_option maxRecDepth 20000 in
set_option maxHeartbeats 1000000 in
theorem whole_1 (h : Sl w A c r) : Calls Try.prog 68 #[.int .u8 30, .slice A r.length c] w fun e w' => ∃ (i m e2 : Int), e = .returned (.tuple #[.int .i64 i, .int .i64 m, .int .i64 e2]) ∧ WholeIs 30 r i m e2 ∧ w = w' := by
  have hl := h.len
  have hle := h.le
  have hN : intN 30 = 1 := rfl
  by_cases hs : r.length < 1
  · have hsi : (r.length : Int) < 1 := by omega
    have HP : Hid (WholeIs 30 r 0 0 2) := Lib.hid ⟨⟨by omega, by omega⟩, fun _ => rfl, fun h => absurd h (by rw [hN]; omega)⟩
    clear hN hs
    go_enter Try.func68, Try.ntmps68
    go_wp2
    refine bodyPost_ret (results_tmp3 rfl _ _ _) rfl ⟨0, 0, 2, rfl, HP.out, rfl⟩
  have hs2 : 1 ≤ r.length := by omega
  have hsl : (r.take 1).length = 1 := by first | (simp; done) | (simp; omega)
  have hX0 : bN (r.take 1) < 256 := by
    have := bN_lt (r.take 1)
    rw [hsl] at this
    exact Nat.lt_of_lt_of_eq this (by decide)
  have HNM := number_any (h.cutAt 1 hs2)
  rw [hsl, gath_zero (by omega)] at HNM
  clear hsl
  obtain ⟨X, hXe⟩ : ∃ y, bN (r.take 1) = y := ⟨_, rfl⟩
  rw [hXe] at HNM hX0
  obtain ⟨y, hy⟩ : ∃ y, 256 - 1 - X = y := ⟨_, rfl⟩
  obtain ⟨z, hz⟩ : ∃ z, 18446744073709551615 - X = z := ⟨_, rfl⟩
  have hx0 := u64_not (x := (X : Int)) (by omega) (by omega)
  have hzi : 18446744073709551615 - (X : Int) = (z : Int) := by omega
  rw [hzi] at hx0
  have hand : bits .and .u64 (z : Int) 255 = (y : Int) := by
    rw [u64_and_mod 8 255 (by omega) (by omega) (by decide) (by decide), show ((2 : Int) ^ 8) = 256 by decide]
    omega
  have HWD := width_any (x := y) (w := w) (by omega)
  have HF : Hid ((widthN y = 1 → y < 9223372036854775808 → WholeIs 30 r (-1 - (y : Int)) 1 0) ∧ (¬ (widthN y = 1 ∧ y < 9223372036854775808) → WholeIs 30 r 0 0 5)) := Lib.hid (by
    have e1 : intX 30 (bN (r.take 1)) 1 = y := by unfold intX; rw [if_pos (by decide), hXe, show (256 : Nat) ^ 1 = 256 by decide]; exact hy
    unfold WholeIs
    rw [hN, e1]
    refine ⟨fun h1 h2 => ⟨⟨by omega, by omega⟩, fun h => by omega, fun _ => ⟨fun _ => ⟨rfl, rfl, by unfold intV; rw [if_pos (by decide)]⟩, fun h => absurd ⟨h1, h2⟩ h⟩⟩, fun h => ⟨⟨by omega, by omega⟩, fun h => by omega, fun _ => ⟨fun h1 => absurd h1 h, fun _ => rfl⟩⟩⟩)
  clear hXe hN hy hz hzi
  go_enter Try.func68, Try.ntmps68
  go_wp2_with fail
  refine HNM.mono ?_
  rintro e w1 ⟨rfl, rfl⟩
  clear HNM
  by_cases hw : widthN y = 1
  · by_cases hx : y < 9223372036854775808
    · have hwi : ((widthN y : Nat) : Int) = 1 := by omega
      have hxi : ¬ (9223372036854775807 < (y : Int)) := by omega
      have hr64 : IntKind.i64.wrap (y : Int) = (y : Int) := by rw [IntKind.wrap_i64]; omega
      have HW := Lib.hid hw
      have HX := Lib.hid hx
      clear hw hx
      go_wp2_with fail
      refine HWD.mono ?_
      rintro e w1 ⟨rfl, rfl⟩
      rw [HW.out]
      clear HWD
      go_wp2
      refine bodyPost_ret (results_tmp3 rfl _ _ _) rfl ⟨-1 - (y : Int), 1, 0, rfl, HF.out.1 HW.out HX.out, rfl⟩
    · have hwi : ((widthN y : Nat) : Int) = 1 := by omega
      have hxi : 9223372036854775807 < (y : Int) := by omega
      have HW := Lib.hid hw
      have HX := Lib.hid hx
      clear hw hx
      go_wp2_with fail
      refine HWD.mono ?_
      rintro e w1 ⟨rfl, rfl⟩
      rw [HW.out]
      clear HWD
      go_wp2
      refine bodyPost_ret (results_tmp3 rfl _ _ _) rfl ⟨0, 0, 5, rfl, HF.out.2 (fun h => HX.out h.2), rfl⟩
  · have hwi : ¬ ((widthN y : Nat) : Int) = 1 := by omega
    have HW := Lib.hid hw
    clear hw
    go_wp2_with fail
    refine HWD.mono ?_
    rintro e w1 ⟨rfl, rfl⟩
    clear HWD
    go_wp2
    refine bodyPost_ret (results_tmp3 rfl _ _ _) rfl ⟨0, 0, 5, rfl, HF.out.2 (fun h => HW.out h.1), rfl⟩
set_option maxRecDepth 20000 in
set_option maxHeartbeats 1000000 in
theorem whole_2 (h : Sl w A c r) : Calls Try.prog 68 #[.int .u8 29, .slice A r.length c] w fun e w' => ∃ (i m e2 : Int), e = .returned (.tuple #[.int .i64 i, .int .i64 m, .int .i64 e2]) ∧ WholeIs 29 r i m e2 ∧ w = w' := by
  have hl := h.len
  have hle := h.le
  have hN : intN 29 = 2 := rfl
  by_cases hs : r.length < 2
  · have hsi : (r.length : Int) < 2 := by omega
    have HP : Hid (WholeIs 29 r 0 0 2) := Lib.hid ⟨⟨by omega, by omega⟩, fun _ => rfl, fun h => absurd h (by rw [hN]; omega)⟩
    clear hN hs
    go_enter Try.func68, Try.ntmps68
    go_wp2
    refine bodyPost_ret (results_tmp3 rfl _ _ _) rfl ⟨0, 0, 2, rfl, HP.out, rfl⟩
  have hs2 : 2 ≤ r.length := by omega
  have hsl : (r.take 2).length = 2 := by first | (simp; done) | (simp; omega)
  have hX0 : bN (r.take 2) < 65536 := by
    have := bN_lt (r.take 2)
    rw [hsl] at this
    exact Nat.lt_of_lt_of_eq this (by decide)
  have HNM := number_any (h.cutAt 2 hs2)
  rw [hsl, gath_zero (by omega)] at HNM
  clear hsl
  obtain ⟨X, hXe⟩ : ∃ y, bN (r.take 2) = y := ⟨_, rfl⟩
  rw [hXe] at HNM hX0
  obtain ⟨y, hy⟩ : ∃ y, 65536 - 1 - X = y := ⟨_, rfl⟩
  obtain ⟨z, hz⟩ : ∃ z, 18446744073709551615 - X = z := ⟨_, rfl⟩
  have hx0 := u64_not (x := (X : Int)) (by omega) (by omega)
  have hzi : 18446744073709551615 - (X : Int) = (z : Int) := by omega
  rw [hzi] at hx0
  have hand : bits .and .u64 (z : Int) 65535 = (y : Int) := by
    rw [u64_and_mod 16 65535 (by omega) (by omega) (by decide) (by decide), show ((2 : Int) ^ 16) = 65536 by decide]
    omega
  have HWD := width_any (x := y) (w := w) (by omega)
  have HF : Hid ((widthN y = 2 → y < 9223372036854775808 → WholeIs 29 r (-1 - (y : Int)) 2 0) ∧ (¬ (widthN y = 2 ∧ y < 9223372036854775808) → WholeIs 29 r 0 0 5)) := Lib.hid (by
    have e1 : intX 29 (bN (r.take 2)) 2 = y := by unfold intX; rw [if_pos (by decide), hXe, show (256 : Nat) ^ 2 = 65536 by decide]; exact hy
    unfold WholeIs
    rw [hN, e1]
    refine ⟨fun h1 h2 => ⟨⟨by omega, by omega⟩, fun h => by omega, fun _ => ⟨fun _ => ⟨rfl, rfl, by unfold intV; rw [if_pos (by decide)]⟩, fun h => absurd ⟨h1, h2⟩ h⟩⟩, fun h => ⟨⟨by omega, by omega⟩, fun h => by omega, fun _ => ⟨fun h1 => absurd h1 h, fun _ => rfl⟩⟩⟩)
  clear hXe hN hy hz hzi
  go_enter Try.func68, Try.ntmps68
  go_wp2_with fail
  refine HNM.mono ?_
  rintro e w1 ⟨rfl, rfl⟩
  clear HNM
  by_cases hw : widthN y = 2
  · by_cases hx : y < 9223372036854775808
    · have hwi : ((widthN y : Nat) : Int) = 2 := by omega
      have hxi : ¬ (9223372036854775807 < (y : Int)) := by omega
      have hr64 : IntKind.i64.wrap (y : Int) = (y : Int) := by rw [IntKind.wrap_i64]; omega
      have HW := Lib.hid hw
      have HX := Lib.hid hx
      clear hw hx
      go_wp2_with fail
      refine HWD.mono ?_
      rintro e w1 ⟨rfl, rfl⟩
      rw [HW.out]
      clear HWD
      go_wp2
      refine bodyPost_ret (results_tmp3 rfl _ _ _) rfl ⟨-1 - (y : Int), 2, 0, rfl, HF.out.1 HW.out HX.out, rfl⟩
    · have hwi : ((widthN y : Nat) : Int) = 2 := by omega
      have hxi : 9223372036854775807 < (y : Int) := by omega
      have HW := Lib.hid hw
      have HX := Lib.hid hx
      clear hw hx
      go_wp2_with fail
      refine HWD.mono ?_
      rintro e w1 ⟨rfl, rfl⟩
      rw [HW.out]
      clear HWD
      go_wp2
      refine bodyPost_ret (results_tmp3 rfl _ _ _) rfl ⟨0, 0, 5, rfl, HF.out.2 (fun h => HX.out h.2), rfl⟩
  · have hwi : ¬ ((widthN y : Nat) : Int) = 2 := by omega
    have HW := Lib.hid hw
    clear hw
    go_wp2_with fail
    refine HWD.mono ?_
    rintro e w1 ⟨rfl, rfl⟩
    clear HWD
    go_wp2
    refine bodyPost_ret (results_tmp3 rfl _ _ _) rfl ⟨0, 0, 5, rfl, HF.out.2 (fun h => HW.out h.1), rfl⟩
set_option maxRecDepth 20000 in
set_option maxHeartbeats 1000000 in
theorem whole_3 (h : Sl w A c r) : Calls Try.prog 68 #[.int .u8 28, .slice A r.length c] w fun e w' => ∃ (i m e2 : Int), e = .returned (.tuple #[.int .i64 i, .int .i64 m, .int .i64 e2]) ∧ WholeIs 28 r i m e2 ∧ w = w' := by
  have hl := h.len
  have hle := h.le
  have hN : intN 28 = 3 := rfl
  by_cases hs : r.length < 3
  · have hsi : (r.length : Int) < 3 := by omega
    have HP : Hid (WholeIs 28 r 0 0 2) := Lib.hid ⟨⟨by omega, by omega⟩, fun _ => rfl, fun h => absurd h (by rw [hN]; omega)⟩
    clear hN hs
    go_enter Try.func68, Try.ntmps68
    go_wp2
    refine bodyPost_ret (results_tmp3 rfl _ _ _) rfl ⟨0, 0, 2, rfl, HP.out, rfl⟩
  have hs2 : 3 ≤ r.length := by omega
  have hsl : (r.take 3).length = 3 := by first | (simp; done) | (simp; omega)
  have hX0 : bN (r.take 3) < 16777216 := by
    have := bN_lt (r.take 3)
    rw [hsl] at this
    exact Nat.lt_of_lt_of_eq this (by decide)
  have HNM := number_any (h.cutAt 3 hs2)
  rw [hsl, gath_zero (by omega)] at HNM
  clear hsl
  obtain ⟨X, hXe⟩ : ∃ y, bN (r.take 3) = y := ⟨_, rfl⟩
  rw [hXe] at HNM hX0
  obtain ⟨y, hy⟩ : ∃ y, 16777216 - 1 - X = y := ⟨_, rfl⟩
  obtain ⟨z, hz⟩ : ∃ z, 18446744073709551615 - X = z := ⟨_, rfl⟩
  have hx0 := u64_not (x := (X : Int)) (by omega) (by omega)
  have hzi : 18446744073709551615 - (X : Int) = (z : Int) := by omega
  rw [hzi] at hx0
  have hand : bits .and .u64 (z : Int) 16777215 = (y : Int) := by
    rw [u64_and_mod 24 16777215 (by omega) (by omega) (by decide) (by decide), show ((2 : Int) ^ 24) = 16777216 by decide]
    omega
  have HWD := width_any (x := y) (w := w) (by omega)
  have HF : Hid ((widthN y = 3 → y < 9223372036854775808 → WholeIs 28 r (-1 - (y : Int)) 3 0) ∧ (¬ (widthN y = 3 ∧ y < 9223372036854775808) → WholeIs 28 r 0 0 5)) := Lib.hid (by
    have e1 : intX 28 (bN (r.take 3)) 3 = y := by unfold intX; rw [if_pos (by decide), hXe, show (256 : Nat) ^ 3 = 16777216 by decide]; exact hy
    unfold WholeIs
    rw [hN, e1]
    refine ⟨fun h1 h2 => ⟨⟨by omega, by omega⟩, fun h => by omega, fun _ => ⟨fun _ => ⟨rfl, rfl, by unfold intV; rw [if_pos (by decide)]⟩, fun h => absurd ⟨h1, h2⟩ h⟩⟩, fun h => ⟨⟨by omega, by omega⟩, fun h => by omega, fun _ => ⟨fun h1 => absurd h1 h, fun _ => rfl⟩⟩⟩)
  clear hXe hN hy hz hzi
  go_enter Try.func68, Try.ntmps68
  go_wp2_with fail
  refine HNM.mono ?_
  rintro e w1 ⟨rfl, rfl⟩
  clear HNM
  by_cases hw : widthN y = 3
  · by_cases hx : y < 9223372036854775808
    · have hwi : ((widthN y : Nat) : Int) = 3 := by omega
      have hxi : ¬ (9223372036854775807 < (y : Int)) := by omega
      have hr64 : IntKind.i64.wrap (y : Int) = (y : Int) := by rw [IntKind.wrap_i64]; omega
      have HW := Lib.hid hw
      have HX := Lib.hid hx
      clear hw hx
      go_wp2_with fail
      refine HWD.mono ?_
      rintro e w1 ⟨rfl, rfl⟩
      rw [HW.out]
      clear HWD
      go_wp2
      refine bodyPost_ret (results_tmp3 rfl _ _ _) rfl ⟨-1 - (y : Int), 3, 0, rfl, HF.out.1 HW.out HX.out, rfl⟩
    · have hwi : ((widthN y : Nat) : Int) = 3 := by omega
      have hxi : 9223372036854775807 < (y : Int) := by omega
      have HW := Lib.hid hw
      have HX := Lib.hid hx
      clear hw hx
      go_wp2_with fail
      refine HWD.mono ?_
      rintro e w1 ⟨rfl, rfl⟩
      rw [HW.out]
      clear HWD
      go_wp2
      refine bodyPost_ret (results_tmp3 rfl _ _ _) rfl ⟨0, 0, 5, rfl, HF.out.2 (fun h => HX.out h.2), rfl⟩
  · have hwi : ¬ ((widthN y : Nat) : Int) = 3 := by omega
    have HW := Lib.hid hw
    clear hw
    go_wp2_with fail
    refine HWD.mono ?_
    rintro e w1 ⟨rfl, rfl⟩
    clear HWD
    go_wp2
    refine bodyPost_ret (results_tmp3 rfl _ _ _) rfl ⟨0, 0, 5, rfl, HF.out.2 (fun h => HW.out h.1), rfl⟩
set_option maxRecDepth 20000 in
set_option maxHeartbeats 1000000 in
theorem whole_4 (h : Sl w A c r) : Calls Try.prog 68 #[.int .u8 27, .slice A r.length c] w fun e w' => ∃ (i m e2 : Int), e = .returned (.tuple #[.int .i64 i, .int .i64 m, .int .i64 e2]) ∧ WholeIs 27 r i m e2 ∧ w = w' := by
  have hl := h.len
  have hle := h.le
  have hN : intN 27 = 4 := rfl
  by_cases hs : r.length < 4
  · have hsi : (r.length : Int) < 4 := by omega
    have HP : Hid (WholeIs 27 r 0 0 2) := Lib.hid ⟨⟨by omega, by omega⟩, fun _ => rfl, fun h => absurd h (by rw [hN]; omega)⟩
    clear hN hs
    go_enter Try.func68, Try.ntmps68
    go_wp2
    refine bodyPost_ret (results_tmp3 rfl _ _ _) rfl ⟨0, 0, 2, rfl, HP.out, rfl⟩
  have hs2 : 4 ≤ r.length := by omega
  have hsl : (r.take 4).length = 4 := by first | (simp; done) | (simp; omega)
  have hX0 : bN (r.take 4) < 4294967296 := by
    have := bN_lt (r.take 4)
    rw [hsl] at this
    exact Nat.lt_of_lt_of_eq this (by decide)
  have HNM := number_any (h.cutAt 4 hs2)
  rw [hsl, gath_zero (by omega)] at HNM
  clear hsl
  obtain ⟨X, hXe⟩ : ∃ y, bN (r.take 4) = y := ⟨_, rfl⟩
  rw [hXe] at HNM hX0
  obtain ⟨y, hy⟩ : ∃ y, 4294967296 - 1 - X = y := ⟨_, rfl⟩
  obtain ⟨z, hz⟩ : ∃ z, 18446744073709551615 - X = z := ⟨_, rfl⟩
  have hx0 := u64_not (x := (X : Int)) (by omega) (by omega)
  have hzi : 18446744073709551615 - (X : Int) = (z : Int) := by omega
  rw [hzi] at hx0
  have hand : bits .and .u64 (z : Int) 4294967295 = (y : Int) := by
    rw [u64_and_mod 32 4294967295 (by omega) (by omega) (by decide) (by decide), show ((2 : Int) ^ 32) = 4294967296 by decide]
    omega
  have HWD := width_any (x := y) (w := w) (by omega)
  have HF : Hid ((widthN y = 4 → y < 9223372036854775808 → WholeIs 27 r (-1 - (y : Int)) 4 0) ∧ (¬ (widthN y = 4 ∧ y < 9223372036854775808) → WholeIs 27 r 0 0 5)) := Lib.hid (by
    have e1 : intX 27 (bN (r.take 4)) 4 = y := by unfold intX; rw [if_pos (by decide), hXe, show (256 : Nat) ^ 4 = 4294967296 by decide]; exact hy
    unfold WholeIs
    rw [hN, e1]
    refine ⟨fun h1 h2 => ⟨⟨by omega, by omega⟩, fun h => by omega, fun _ => ⟨fun _ => ⟨rfl, rfl, by unfold intV; rw [if_pos (by decide)]⟩, fun h => absurd ⟨h1, h2⟩ h⟩⟩, fun h => ⟨⟨by omega, by omega⟩, fun h => by omega, fun _ => ⟨fun h1 => absurd h1 h, fun _ => rfl⟩⟩⟩)
  clear hXe hN hy hz hzi
  go_enter Try.func68, Try.ntmps68
  go_wp2_with fail
  refine HNM.mono ?_
  rintro e w1 ⟨rfl, rfl⟩
  clear HNM
  by_cases hw : widthN y = 4
  · by_cases hx : y < 9223372036854775808
    · have hwi : ((widthN y : Nat) : Int) = 4 := by omega
      have hxi : ¬ (9223372036854775807 < (y : Int)) := by omega
      have hr64 : IntKind.i64.wrap (y : Int) = (y : Int) := by rw [IntKind.wrap_i64]; omega
      have HW := Lib.hid hw
      have HX := Lib.hid hx
      clear hw hx
      go_wp2_with fail
      refine HWD.mono ?_
      rintro e w1 ⟨rfl, rfl⟩
      rw [HW.out]
      clear HWD
      go_wp2
      refine bodyPost_ret (results_tmp3 rfl _ _ _) rfl ⟨-1 - (y : Int), 4, 0, rfl, HF.out.1 HW.out HX.out, rfl⟩
    · have hwi : ((widthN y : Nat) : Int) = 4 := by omega
      have hxi : 9223372036854775807 < (y : Int) := by omega
      have HW := Lib.hid hw
      have HX := Lib.hid hx
      clear hw hx
      go_wp2_with fail
      refine HWD.mono ?_
      rintro e w1 ⟨rfl, rfl⟩
      rw [HW.out]
      clear HWD
      go_wp2
      refine bodyPost_ret (results_tmp3 rfl _ _ _) rfl ⟨0, 0, 5, rfl, HF.out.2 (fun h => HX.out h.2), rfl⟩
  · have hwi : ¬ ((widthN y : Nat) : Int) = 4 := by omega
    have HW := Lib.hid hw
    clear hw
    go_wp2_with fail
    refine HWD.mono ?_
    rintro e w1 ⟨rfl, rfl⟩
    clear HWD
    go_wp2
    refine bodyPost_ret (results_tmp3 rfl _ _ _) rfl ⟨0, 0, 5, rfl, HF.out.2 (fun h => HW.out h.1), rfl⟩
set_option maxRecDepth 20000 in
set_option maxHeartbeats 1000000 in
theorem whole_5 (h : Sl w A c r) : Calls Try.prog 68 #[.int .u8 26, .slice A r.length c] w fun e w' => ∃ (i m e2 : Int), e = .returned (.tuple #[.int .i64 i, .int .i64 m, .int .i64 e2]) ∧ WholeIs 26 r i m e2 ∧ w = w' := by
  have hl := h.len
  have hle := h.le
  have hN : intN 26 = 5 := rfl
  by_cases hs : r.length < 5
  · have hsi : (r.length : Int) < 5 := by omega
    have HP : Hid (WholeIs 26 r 0 0 2) := Lib.hid ⟨⟨by omega, by omega⟩, fun _ => rfl, fun h => absurd h (by rw [hN]; omega)⟩
    clear hN hs
    go_enter Try.func68, Try.ntmps68
    go_wp2
    refine bodyPost_ret (results_tmp3 rfl _ _ _) rfl ⟨0, 0, 2, rfl, HP.out, rfl⟩
  have hs2 : 5 ≤ r.length := by omega
  have hsl : (r.take 5).length = 5 := by first | (simp; done) | (simp; omega)
  have hX0 : bN (r.take 5) < 1099511627776 := by
    have := bN_lt (r.take 5)
    rw [hsl] at this
    exact Nat.lt_of_lt_of_eq this (by decide)
  have HNM := number_any (h.cutAt 5 hs2)
  rw [hsl, gath_zero (by omega)] at HNM
  clear hsl
  obtain ⟨X, hXe⟩ : ∃ y, bN (r.take 5) = y := ⟨_, rfl⟩
  rw [hXe] at HNM hX0
  obtain ⟨y, hy⟩ : ∃ y, 1099511627776 - 1 - X = y := ⟨_, rfl⟩
  obtain ⟨z, hz⟩ : ∃ z, 18446744073709551615 - X = z := ⟨_, rfl⟩
  have hx0 := u64_not (x := (X : Int)) (by omega) (by omega)
  have hzi : 18446744073709551615 - (X : Int) = (z : Int) := by omega
  rw [hzi] at hx0
  have hand : bits .and .u64 (z : Int) 1099511627775 = (y : Int) := by
    rw [u64_and_mod 40 1099511627775 (by omega) (by omega) (by decide) (by decide), show ((2 : Int) ^ 40) = 1099511627776 by decide]
    omega
  have HWD := width_any (x := y) (w := w) (by omega)
  have HF : Hid ((widthN y = 5 → y < 9223372036854775808 → WholeIs 26 r (-1 - (y : Int)) 5 0) ∧ (¬ (widthN y = 5 ∧ y < 9223372036854775808) → WholeIs 26 r 0 0 5)) := Lib.hid (by
    have e1 : intX 26 (bN (r.take 5)) 5 = y := by unfold intX; rw [if_pos (by decide), hXe, show (256 : Nat) ^ 5 = 1099511627776 by decide]; exact hy
    unfold WholeIs
    rw [hN, e1]
    refine ⟨fun h1 h2 => ⟨⟨by omega, by omega⟩, fun h => by omega, fun _ => ⟨fun _ => ⟨rfl, rfl, by unfold intV; rw [if_pos (by decide)]⟩, fun h => absurd ⟨h1, h2⟩ h⟩⟩, fun h => ⟨⟨by omega, by omega⟩, fun h => by omega, fun _ => ⟨fun h1 => absurd h1 h, fun _ => rfl⟩⟩⟩)
  clear hXe hN hy hz hzi
  go_enter Try.func68, Try.ntmps68
  go_wp2_with fail
  refine HNM.mono ?_
  rintro e w1 ⟨rfl, rfl⟩
  clear HNM
  by_cases hw : widthN y = 5
  · by_cases hx : y < 9223372036854775808
    · have hwi : ((widthN y : Nat) : Int) = 5 := by omega
      have hxi : ¬ (9223372036854775807 < (y : Int)) := by omega
      have hr64 : IntKind.i64.wrap (y : Int) = (y : Int) := by rw [IntKind.wrap_i64]; omega
      have HW := Lib.hid hw
      have HX := Lib.hid hx
      clear hw hx
      go_wp2_with fail
      refine HWD.mono ?_
      rintro e w1 ⟨rfl, rfl⟩
      rw [HW.out]
      clear HWD
      go_wp2
      refine bodyPost_ret (results_tmp3 rfl _ _ _) rfl ⟨-1 - (y : Int), 5, 0, rfl, HF.out.1 HW.out HX.out, rfl⟩
    · have hwi : ((widthN y : Nat) : Int) = 5 := by omega
      have hxi : 9223372036854775807 < (y : Int) := by omega
      have HW := Lib.hid hw
      have HX := Lib.hid hx
      clear hw hx
      go_wp2_with fail
      refine HWD.mono ?_
      rintro e w1 ⟨rfl, rfl⟩
      rw [HW.out]
      clear HWD
      go_wp2
      refine bodyPost_ret (results_tmp3 rfl _ _ _) rfl ⟨0, 0, 5, rfl, HF.out.2 (fun h => HX.out h.2), rfl⟩
  · have hwi : ¬ ((widthN y : Nat) : Int) = 5 := by omega
    have HW := Lib.hid hw
    clear hw
    go_wp2_with fail
    refine HWD.mono ?_
    rintro e w1 ⟨rfl, rfl⟩
    clear HWD
    go_wp2
    refine bodyPost_ret (results_tmp3 rfl _ _ _) rfl ⟨0, 0, 5, rfl, HF.out.2 (fun h => HW.out h.1), rfl⟩
set_option maxRecDepth 20000 in
set_option maxHeartbeats 1000000 in
theorem whole_6 (h : Sl w A c r) : Calls Try.prog 68 #[.int .u8 25, .slice A r.length c] w fun e w' => ∃ (i m e2 : Int), e = .returned (.tuple #[.int .i64 i, .int .i64 m, .int .i64 e2]) ∧ WholeIs 25 r i m e2 ∧ w = w' := by
  have hl := h.len
  have hle := h.le
  have hN : intN 25 = 6 := rfl
  by_cases hs : r.length < 6
  · have hsi : (r.length : Int) < 6 := by omega
    have HP : Hid (WholeIs 25 r 0 0 2) := Lib.hid ⟨⟨by omega, by omega⟩, fun _ => rfl, fun h => absurd h (by rw [hN]; omega)⟩
    clear hN hs
    go_enter Try.func68, Try.ntmps68
    go_wp2
    refine bodyPost_ret (results_tmp3 rfl _ _ _) rfl ⟨0, 0, 2, rfl, HP.out, rfl⟩
  have hs2 : 6 ≤ r.length := by omega
  have hsl : (r.take 6).length = 6 := by first | (simp; done) | (simp; omega)
  have hX0 : bN (r.take 6) < 281474976710656 := by
    have := bN_lt (r.take 6)
    rw [hsl] at this
    exact Nat.lt_of_lt_of_eq this (by decide)
  have HNM := number_any (h.cutAt 6 hs2)
  rw [hsl, gath_zero (by omega)] at HNM
  clear hsl
  obtain ⟨X, hXe⟩ : ∃ y, bN (r.take 6) = y := ⟨_, rfl⟩
  rw [hXe] at HNM hX0
  obtain ⟨y, hy⟩ : ∃ y, 281474976710656 - 1 - X = y := ⟨_, rfl⟩
  obtain ⟨z, hz⟩ : ∃ z, 18446744073709551615 - X = z := ⟨_, rfl⟩
  have hx0 := u64_not (x := (X : Int)) (by omega) (by omega)
  have hzi : 18446744073709551615 - (X : Int) = (z : Int) := by omega
  rw [hzi] at hx0
  have hand : bits .and .u64 (z : Int) 281474976710655 = (y : Int) := by
    rw [u64_and_mod 48 281474976710655 (by omega) (by omega) (by decide) (by decide), show ((2 : Int) ^ 48) = 281474976710656 by decide]
    omega
  have HWD := width_any (x := y) (w := w) (by omega)
  have HF : Hid ((widthN y = 6 → y < 9223372036854775808 → WholeIs 25 r (-1 - (y : Int)) 6 0) ∧ (¬ (widthN y = 6 ∧ y < 9223372036854775808) → WholeIs 25 r 0 0 5)) := Lib.hid (by
    have e1 : intX 25 (bN (r.take 6)) 6 = y := by unfold intX; rw [if_pos (by decide), hXe, show (256 : Nat) ^ 6 = 281474976710656 by decide]; exact hy
    unfold WholeIs
    rw [hN, e1]
    refine ⟨fun h1 h2 => ⟨⟨by omega, by omega⟩, fun h => by omega, fun _ => ⟨fun _ => ⟨rfl, rfl, by unfold intV; rw [if_pos (by decide)]⟩, fun h => absurd ⟨h1, h2⟩ h⟩⟩, fun h => ⟨⟨by omega, by omega⟩, fun h => by omega, fun _ => ⟨fun h1 => absurd h1 h, fun _ => rfl⟩⟩⟩)
  clear hXe hN hy hz hzi
  go_enter Try.func68, Try.ntmps68
  go_wp2_with fail
  refine HNM.mono ?_
  rintro e w1 ⟨rfl, rfl⟩
  clear HNM
  by_cases hw : widthN y = 6
  · by_cases hx : y < 9223372036854775808
    · have hwi : ((widthN y : Nat) : Int) = 6 := by omega
      have hxi : ¬ (9223372036854775807 < (y : Int)) := by omega
      have hr64 : IntKind.i64.wrap (y : Int) = (y : Int) := by rw [IntKind.wrap_i64]; omega
      have HW := Lib.hid hw
      have HX := Lib.hid hx
      clear hw hx
      go_wp2_with fail
      refine HWD.mono ?_
      rintro e w1 ⟨rfl, rfl⟩
      rw [HW.out]
      clear HWD
      go_wp2
      refine bodyPost_ret (results_tmp3 rfl _ _ _) rfl ⟨-1 - (y : Int), 6, 0, rfl, HF.out.1 HW.out HX.out, rfl⟩
    · have hwi : ((widthN y : Nat) : Int) = 6 := by omega
      have hxi : 9223372036854775807 < (y : Int) := by omega
      have HW := Lib.hid hw
      have HX := Lib.hid hx
      clear hw hx
      go_wp2_with fail
      refine HWD.mono ?_
      rintro e w1 ⟨rfl, rfl⟩
      rw [HW.out]
      clear HWD
      go_wp2
      refine bodyPost_ret (results_tmp3 rfl _ _ _) rfl ⟨0, 0, 5, rfl, HF.out.2 (fun h => HX.out h.2), rfl⟩
  · have hwi : ¬ ((widthN y : Nat) : Int) = 6 := by omega
    have HW := Lib.hid hw
    clear hw
    go_wp2_with fail
    refine HWD.mono ?_
    rintro e w1 ⟨rfl, rfl⟩
    clear HWD
    go_wp2
    refine bodyPost_ret (results_tmp3 rfl _ _ _) rfl ⟨0, 0, 5, rfl, HF.out.2 (fun h => HW.out h.1), rfl⟩
set_option maxRecDepth 20000 in
set_option maxHeartbeats 1000000 in
theorem whole_7 (h : Sl w A c r) : Calls Try.prog 68 #[.int .u8 24, .slice A r.length c] w fun e w' => ∃ (i m e2 : Int), e = .returned (.tuple #[.int .i64 i, .int .i64 m, .int .i64 e2]) ∧ WholeIs 24 r i m e2 ∧ w = w' := by
  have hl := h.len
  have hle := h.le
  have hN : intN 24 = 7 := rfl
  by_cases hs : r.length < 7
  · have hsi : (r.length : Int) < 7 := by omega
    have HP : Hid (WholeIs 24 r 0 0 2) := Lib.hid ⟨⟨by omega, by omega⟩, fun _ => rfl, fun h => absurd h (by rw [hN]; omega)⟩
    clear hN hs
    go_enter Try.func68, Try.ntmps68
    go_wp2
    refine bodyPost_ret (results_tmp3 rfl _ _ _) rfl ⟨0, 0, 2, rfl, HP.out, rfl⟩
  have hs2 : 7 ≤ r.length := by omega
  have hsl : (r.take 7).length = 7 := by first | (simp; done) | (simp; omega)
  have hX0 : bN (r.take 7) < 72057594037927936 := by
    have := bN_lt (r.take 7)
    rw [hsl] at this
    exact Nat.lt_of_lt_of_eq this (by decide)
  have HNM := number_any (h.cutAt 7 hs2)
  rw [hsl, gath_zero (by omega)] at HNM
  clear hsl
  obtain ⟨X, hXe⟩ : ∃ y, bN (r.take 7) = y := ⟨_, rfl⟩
  rw [hXe] at HNM hX0
  obtain ⟨y, hy⟩ : ∃ y, 72057594037927936 - 1 - X = y := ⟨_, rfl⟩
  obtain ⟨z, hz⟩ : ∃ z, 18446744073709551615 - X = z := ⟨_, rfl⟩
  have hx0 := u64_not (x := (X : Int)) (by omega) (by omega)
  have hzi : 18446744073709551615 - (X : Int) = (z : Int) := by omega
  rw [hzi] at hx0
  have hand : bits .and .u64 (z : Int) 72057594037927935 = (y : Int) := by
    rw [u64_and_mod 56 72057594037927935 (by omega) (by omega) (by decide) (by decide), show ((2 : Int) ^ 56) = 72057594037927936 by decide]
    omega
  have HWD := width_any (x := y) (w := w) (by omega)
  have HF : Hid ((widthN y = 7 → y < 9223372036854775808 → WholeIs 24 r (-1 - (y : Int)) 7 0) ∧ (¬ (widthN y = 7 ∧ y < 9223372036854775808) → WholeIs 24 r 0 0 5)) := Lib.hid (by
    have e1 : intX 24 (bN (r.take 7)) 7 = y := by unfold intX; rw [if_pos (by decide), hXe, show (256 : Nat) ^ 7 = 72057594037927936 by decide]; exact hy
    unfold WholeIs
    rw [hN, e1]
    refine ⟨fun h1 h2 => ⟨⟨by omega, by omega⟩, fun h => by omega, fun _ => ⟨fun _ => ⟨rfl, rfl, by unfold intV; rw [if_pos (by decide)]⟩, fun h => absurd ⟨h1, h2⟩ h⟩⟩, fun h => ⟨⟨by omega, by omega⟩, fun h => by omega, fun _ => ⟨fun h1 => absurd h1 h, fun _ => rfl⟩⟩⟩)
  clear hXe hN hy hz hzi
  go_enter Try.func68, Try.ntmps68
  go_wp2_with fail
  refine HNM.mono ?_
  rintro e w1 ⟨rfl, rfl⟩
  clear HNM
  by_cases hw : widthN y = 7
  · by_cases hx : y < 9223372036854775808
    · have hwi : ((widthN y : Nat) : Int) = 7 := by omega
      have hxi : ¬ (9223372036854775807 < (y : Int)) := by omega
      have hr64 : IntKind.i64.wrap (y : Int) = (y : Int) := by rw [IntKind.wrap_i64]; omega
      have HW := Lib.hid hw
      have HX := Lib.hid hx
      clear hw hx
      go_wp2_with fail
      refine HWD.mono ?_
      rintro e w1 ⟨rfl, rfl⟩
      rw [HW.out]
      clear HWD
      go_wp2
      refine bodyPost_ret (results_tmp3 rfl _ _ _) rfl ⟨-1 - (y : Int), 7, 0, rfl, HF.out.1 HW.out HX.out, rfl⟩
    · have hwi : ((widthN y : Nat) : Int) = 7 := by omega
      have hxi : 9223372036854775807 < (y : Int) := by omega
      have HW := Lib.hid hw
      have HX := Lib.hid hx
      clear hw hx
      go_wp2_with fail
      refine HWD.mono ?_
      rintro e w1 ⟨rfl, rfl⟩
      rw [HW.out]
      clear HWD
      go_wp2
      refine bodyPost_ret (results_tmp3 rfl _ _ _) rfl ⟨0, 0, 5, rfl, HF.out.2 (fun h => HX.out h.2), rfl⟩
  · have hwi : ¬ ((widthN y : Nat) : Int) = 7 := by omega
    have HW := Lib.hid hw
    clear hw
    go_wp2_with fail
    refine HWD.mono ?_
    rintro e w1 ⟨rfl, rfl⟩
    clear HWD
    go_wp2
    refine bodyPost_ret (results_tmp3 rfl _ _ _) rfl ⟨0, 0, 5, rfl, HF.out.2 (fun h => HW.out h.1), rfl⟩
set_option maxRecDepth 20000 in
set_option maxHeartbeats 1000000 in
theorem whole_8 (h : Sl w A c r) : Calls Try.prog 68 #[.int .u8 23, .slice A r.length c] w fun e w' => ∃ (i m e2 : Int), e = .returned (.tuple #[.int .i64 i, .int .i64 m, .int .i64 e2]) ∧ WholeIs 23 r i m e2 ∧ w = w' := by
  have hl := h.len
  have hle := h.le
  have hN : intN 23 = 8 := rfl
  by_cases hs : r.length < 8
  · have hsi : (r.length : Int) < 8 := by omega
    have HP : Hid (WholeIs 23 r 0 0 2) := Lib.hid ⟨⟨by omega, by omega⟩, fun _ => rfl, fun h => absurd h (by rw [hN]; omega)⟩
    clear hN hs
    go_enter Try.func68, Try.ntmps68
    go_wp2
    refine bodyPost_ret (results_tmp3 rfl _ _ _) rfl ⟨0, 0, 2, rfl, HP.out, rfl⟩
  have hs2 : 8 ≤ r.length := by omega
  have hsl : (r.take 8).length = 8 := by first | (simp; done) | (simp; omega)
  have hX0 : bN (r.take 8) < 18446744073709551616 := by
    have := bN_lt (r.take 8)
    rw [hsl] at this
    exact Nat.lt_of_lt_of_eq this (by decide)
  have HNM := number_any (h.cutAt 8 hs2)
  rw [hsl, gath_zero (by omega)] at HNM
  clear hsl
  obtain ⟨X, hXe⟩ : ∃ y, bN (r.take 8) = y := ⟨_, rfl⟩
  rw [hXe] at HNM hX0
  obtain ⟨y, hy⟩ : ∃ y, 18446744073709551616 - 1 - X = y := ⟨_, rfl⟩
  obtain ⟨z, hz⟩ : ∃ z, 18446744073709551615 - X = z := ⟨_, rfl⟩
  have hx0 := u64_not (x := (X : Int)) (by omega) (by omega)
  have hzi : 18446744073709551615 - (X : Int) = (z : Int) := by omega
  rw [hzi] at hx0
  have HWD := width_any (x := y) (w := w) (by omega)
  have HF : Hid ((widthN y = 8 → y < 9223372036854775808 → WholeIs 23 r (-1 - (y : Int)) 8 0) ∧ (¬ (widthN y = 8 ∧ y < 9223372036854775808) → WholeIs 23 r 0 0 5)) := Lib.hid (by
    have e1 : intX 23 (bN (r.take 8)) 8 = y := by unfold intX; rw [if_pos (by decide), hXe, show (256 : Nat) ^ 8 = 18446744073709551616 by decide]; exact hy
    unfold WholeIs
    rw [hN, e1]
    refine ⟨fun h1 h2 => ⟨⟨by omega, by omega⟩, fun h => by omega, fun _ => ⟨fun _ => ⟨rfl, rfl, by unfold intV; rw [if_pos (by decide)]⟩, fun h => absurd ⟨h1, h2⟩ h⟩⟩, fun h => ⟨⟨by omega, by omega⟩, fun h => by omega, fun _ => ⟨fun h1 => absurd h1 h, fun _ => rfl⟩⟩⟩)
  obtain rfl : y = z := by omega
  clear hXe hN hy hz hzi
  go_enter Try.func68, Try.ntmps68
  go_wp2_with fail
  refine HNM.mono ?_
  rintro e w1 ⟨rfl, rfl⟩
  clear HNM
  by_cases hw : widthN y = 8
  · by_cases hx : y < 9223372036854775808
    · have hwi : ((widthN y : Nat) : Int) = 8 := by omega
      have hxi : ¬ (9223372036854775807 < (y : Int)) := by omega
      have hr64 : IntKind.i64.wrap (y : Int) = (y : Int) := by rw [IntKind.wrap_i64]; omega
      have HW := Lib.hid hw
      have HX := Lib.hid hx
      clear hw hx
      go_wp2_with fail
      refine HWD.mono ?_
      rintro e w1 ⟨rfl, rfl⟩
      rw [HW.out]
      clear HWD
      go_wp2
      refine bodyPost_ret (results_tmp3 rfl _ _ _) rfl ⟨-1 - (y : Int), 8, 0, rfl, HF.out.1 HW.out HX.out, rfl⟩
    · have hwi : ((widthN y : Nat) : Int) = 8 := by omega
      have hxi : 9223372036854775807 < (y : Int) := by omega
      have HW := Lib.hid hw
      have HX := Lib.hid hx
      clear hw hx
      go_wp2_with fail
      refine HWD.mono ?_
      rintro e w1 ⟨rfl, rfl⟩
      rw [HW.out]
      clear HWD
      go_wp2
      refine bodyPost_ret (results_tmp3 rfl _ _ _) rfl ⟨0, 0, 5, rfl, HF.out.2 (fun h => HX.out h.2), rfl⟩
  · have hwi : ¬ ((widthN y : Nat) : Int) = 8 := by omega
    have HW := Lib.hid hw
    clear hw
    go_wp2_with fail
    refine HWD.mono ?_
    rintro e w1 ⟨rfl, rfl⟩
    clear HWD
    go_wp2
    refine bodyPost_ret (results_tmp3 rfl _ _ _) rfl ⟨0, 0, 5, rfl, HF.out.2 (fun h => HW.out h.1), rfl⟩
theorem whole_any {t : Nat} (h : Sl w A c r) (ht : 23 ≤ t) (ht2 : t ≤ 40) : Calls Try.prog 68 #[.int .u8 t, .slice A r.length c] w fun e w' => ∃ (i m e2 : Int), e = .returned (.tuple #[.int .i64 i, .int .i64 m, .int .i64 e2]) ∧ WholeIs t r i m e2 ∧ w = w' := by
  by_cases hb : t ≤ 31
  · obtain ⟨n, hn⟩ : ∃ n, intN t = n := ⟨_, rfl⟩
    have hn2 := hn
    unfold intN at hn2
    rw [if_pos hb] at hn2
    have hc : n = 0 ∨ n = 1 ∨ n = 2 ∨ n = 3 ∨ n = 4 ∨ n = 5 ∨ n = 6 ∨ n = 7 ∨ n = 8 := by omega
    rcases hc with h' | h' | h' | h' | h' | h' | h' | h' | h'
    · obtain rfl : t = 31 := by omega
      exact whole_0 h
    · obtain rfl : t = 30 := by omega
      exact whole_1 h
    · obtain rfl : t = 29 := by omega
      exact whole_2 h
    · obtain rfl : t = 28 := by omega
      exact whole_3 h
    · obtain rfl : t = 27 := by omega
      exact whole_4 h
    · obtain rfl : t = 26 := by omega
      exact whole_5 h
    · obtain rfl : t = 25 := by omega
      exact whole_6 h
    · obtain rfl : t = 24 := by omega
      exact whole_7 h
    · obtain rfl : t = 23 := by omega
      exact whole_8 h
  · obtain ⟨n, hn⟩ : ∃ n, intN t = n := ⟨_, rfl⟩
    have hn2 := hn
    unfold intN at hn2
    rw [if_neg hb] at hn2
    exact whole_hi h hn (by omega) (by omega)
end
end Go.Proofs.Ytbjfgnkjmfcokaa
