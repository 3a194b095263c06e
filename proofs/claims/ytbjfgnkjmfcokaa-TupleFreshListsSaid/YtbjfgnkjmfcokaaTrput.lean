/- Layer 3: contracts of the document's putReal, putInt, put. No condition but the bounds of the types, and that texts are no longer than 2^40. -/
import Derived.Test.YtbjfgnkjmfcokaaTputs
namespace Go.Proofs.Ytbjfgnkjmfcokaa
open Go.RowKit Go.Proofs
set_option linter.unusedVariables false
section
variable {w : World} {B c : Nat} {A : Option Addr} {bs : List UInt8} {k i : Int} {b : Bool} {r e m : Nat} {t : List UInt8}
set_option maxRecDepth 100000 in
set_option maxHeartbeats 400000 in
theorem putReal_hi {x : Nat} (hB : B ≤ w.heap.size) (hO : Own 5 B w A c bs) (hl : bs.length ≤ 1099511627776 + 16) (hx : x < 18446744073709551616) (hh : 9223372036854775808 ≤ oneN x) :
    Calls Try.prog 64 #[.slice A bs.length c, .int .u64 x] w (PutIn B w (bs ++ bigB (rankN x) 8)) := by
  obtain ⟨i0, hi, hz0, hz1, hz2⟩ := info_parts infoU8
  obtain ⟨fin, hfin⟩ : ∃ fin, fin = bs ++ bigB (rankN x) 8 := ⟨_, rfl⟩
  rw [← hfin]
  have HF := Lib.hid hfin
  clear hfin
  have hrd := rankN_bd hx
  have hr : rankN x = 18446744073709551615 - oneN x := by unfold rankN; rw [if_pos hh]
  have hb := oneN_bd hx
  have hc := done_any (x := x) (w := w) hx
  obtain ⟨z, hz⟩ : ∃ z, rankN x = z := ⟨_, rfl⟩
  rw [hz] at hr hrd HF
  revert hc
  generalize oneN x = y at *
  intro hc
  clear hz
  have h1 := u64_not (x := (y : Int)) (by omega) (by omega)
  have hzi : 18446744073709551615 - (y : Int) = (z : Int) := by omega
  rw [hzi] at h1
  have hd : (y : Int) / 9223372036854775808 = 1 := by omega
  clear hh hr
  go_enter Try.func64, Try.ntmps64
  go_wp2_with (go_at_call 51; refine hc.mono ?_; rintro e' w' ⟨rfl, rfl⟩; clear hc)
  have HB := big_any (A := A) (c := c) (n := 8) (x := z) hB hO (by omega) (by omega) hrd
  rw [← HF.out] at HB
  refine HB.mono ?_
  rintro e9 w9 ⟨A9, c9, rfl, ho9, hE9⟩
  clear h1 hzi HB
  go_wp2
  go_ret
  exact ⟨A9, c9, rfl, ho9, hE9⟩
set_option maxRecDepth 100000 in
set_option maxHeartbeats 400000 in
theorem putReal_lo {x : Nat} (hB : B ≤ w.heap.size) (hO : Own 5 B w A c bs) (hl : bs.length ≤ 1099511627776 + 16) (hx : x < 18446744073709551616) (hh : ¬ 9223372036854775808 ≤ oneN x) :
    Calls Try.prog 64 #[.slice A bs.length c, .int .u64 x] w (PutIn B w (bs ++ bigB (rankN x) 8)) := by
  obtain ⟨i0, hi, hz0, hz1, hz2⟩ := info_parts infoU8
  obtain ⟨fin, hfin⟩ : ∃ fin, fin = bs ++ bigB (rankN x) 8 := ⟨_, rfl⟩
  rw [← hfin]
  have HF := Lib.hid hfin
  clear hfin
  have hrd := rankN_bd hx
  have hr : rankN x = oneN x + 9223372036854775808 := by unfold rankN; rw [if_neg hh]
  have hb := oneN_bd hx
  have hc := done_any (x := x) (w := w) hx
  obtain ⟨z, hz⟩ : ∃ z, rankN x = z := ⟨_, rfl⟩
  rw [hz] at hr hrd HF
  revert hc
  generalize oneN x = y at *
  intro hc
  clear hz
  have h1 := u64_xorTop (x := (y : Int)) (by omega) (by omega)
  rw [if_pos (by omega)] at h1
  have hzi : (y : Int) + 9223372036854775808 = (z : Int) := by omega
  rw [hzi] at h1
  have hd : (y : Int) / 9223372036854775808 = 0 := by omega
  clear hh hr
  go_enter Try.func64, Try.ntmps64
  go_wp2_with (go_at_call 51; refine hc.mono ?_; rintro e' w' ⟨rfl, rfl⟩; clear hc)
  have HB := big_any (A := A) (c := c) (n := 8) (x := z) hB hO (by omega) (by omega) hrd
  rw [← HF.out] at HB
  refine HB.mono ?_
  rintro e9 w9 ⟨A9, c9, rfl, ho9, hE9⟩
  clear h1 hzi HB
  go_wp2
  go_ret
  exact ⟨A9, c9, rfl, ho9, hE9⟩
theorem putReal_any {x : Nat} (hB : B ≤ w.heap.size) (hO : Own 5 B w A c bs) (hl : bs.length ≤ 1099511627776 + 16) (hx : x < 18446744073709551616) :
    Calls Try.prog 64 #[.slice A bs.length c, .int .u64 x] w (PutIn B w (bs ++ bigB (rankN x) 8)) := by
  by_cases h : 9223372036854775808 ≤ oneN x
  · exact putReal_hi hB hO hl hx h
  · exact putReal_lo hB hO hl hx h
set_option maxRecDepth 100000 in
set_option maxHeartbeats 400000 in
theorem putInt_p {n : Nat} (hB : B ≤ w.heap.size) (hO : Own 5 B w A c bs) (hl : bs.length ≤ 1099511627776 + 16) (hn : n < 9223372036854775808) :
    Calls Try.prog 63 #[.slice A bs.length c, .int .i64 (n : Int)] w (PutIn B w (bs ++ (b8 (32 + (widthN n : Int)) :: bigB n (widthN n)))) := by
  obtain ⟨i0, hi, hz0, hz1, hz2⟩ := info_parts infoU8
  obtain ⟨fin, hfin⟩ : ∃ fin, fin = bs ++ (b8 (32 + (widthN n : Int)) :: bigB n (widthN n)) := ⟨_, rfl⟩
  rw [← hfin]
  have HF := Lib.hid hfin
  clear hfin
  have hw8 := widthN_8 (x := n) (by omega)
  have hwa := rwidth_any (x := n) (w := w) (by omega)
  obtain ⟨d, hd⟩ : ∃ d, widthN n = d := ⟨_, rfl⟩
  rw [hd] at hw8 hwa HF
  clear hd
  go_enter Try.func63, Try.ntmps63
  go_wp2_with (first | (go_at_call 77; refine hwa.mono ?_; rintro e' w' ⟨rfl, rfl⟩; clear hwa) | (at_builtin; go_loud (refine wpList_append_own _ rfl _ _ 30 rfl B 5 i0 (.int .u8 0) 1 1 Try.underlying30 hi hz0 hz1 hz2 rfl (by decide) _ _ _ rfl (World.ownsRow.alloc (hO) _) ⟨w.heap.size, 0, none⟩ 1 1 [.int .u8 (32 + (d : Int))] rfl rfl (cell_one_new _ _ _) (by simp [Value.oneCell']) (by simp [maxLen]; omega) (by omega) (by simp; omega) ?_; intro v' w2 hown2 hgrow2 _); obtain ⟨A2, c2, rfl, ho2, hE2⟩ := own_push (b8 (32 + (d : Int))) (exc_refl _ w) hO hgrow2 hown2 (by rw [b8_toNat]; omega); have hsz := hE2.size; clear hown2 hgrow2))
  have HB := big_any (B := B) (A := A2) (c := c2) (n := d) (x := n) (by omega) ho2 (by simp; omega) hw8 (by omega)
  rw [show bs ++ [b8 (32 + (d : Int))] ++ bigB n d = fin from by rw [HF.out]; simp, show (bs ++ [b8 (32 + (d : Int))]).length = bs.length + 1 by simp] at HB
  refine HB.mono ?_
  rintro e9 w9 ⟨A9, c9, rfl, ho9, hE9⟩
  clear HB
  go_wp2
  go_ret
  exact ⟨A9, c9, rfl, ho9, hE2.trans hE9⟩
set_option maxRecDepth 100000 in
set_option maxHeartbeats 400000 in
theorem putInt_n {n : Nat} (hB : B ≤ w.heap.size) (hO : Own 5 B w A c bs) (hl : bs.length ≤ 1099511627776 + 16) (hi0 : i < 0) (hin : -1 - i = (n : Int)) (hn : n < 9223372036854775808) :
    Calls Try.prog 63 #[.slice A bs.length c, .int .i64 i] w (PutIn B w (bs ++ (b8 (31 - (widthN n : Int)) :: bigB (18446744073709551615 - n) (widthN n)))) := by
  obtain ⟨i0, hi, hz0, hz1, hz2⟩ := info_parts infoU8
  obtain ⟨fin, hfin⟩ : ∃ fin, fin = bs ++ (b8 (31 - (widthN n : Int)) :: bigB (18446744073709551615 - n) (widthN n)) := ⟨_, rfl⟩
  rw [← hfin]
  have HF := Lib.hid hfin
  clear hfin
  have hw8 := widthN_8 (x := n) (by omega)
  have hwa := rwidth_any (x := n) (w := w) (by omega)
  obtain ⟨d, hd⟩ : ∃ d, widthN n = d := ⟨_, rfl⟩
  rw [hd] at hw8 hwa HF
  clear hd
  obtain ⟨y, hy⟩ : ∃ y, 18446744073709551615 - n = y := ⟨_, rfl⟩
  have hyi : 18446744073709551615 - (n : Int) = (y : Int) := by omega
  rw [hy] at HF
  clear hy
  have hx0 := u64_not (x := (n : Int)) (by omega) (by omega)
  rw [hyi] at hx0
  go_enter Try.func63, Try.ntmps63
  go_wp2_with (first | (go_at_call 77; refine hwa.mono ?_; rintro e' w' ⟨rfl, rfl⟩; clear hwa) | (at_builtin; go_loud (refine wpList_append_own _ rfl _ _ 30 rfl B 5 i0 (.int .u8 0) 1 1 Try.underlying30 hi hz0 hz1 hz2 rfl (by decide) _ _ _ rfl (World.ownsRow.alloc (hO) _) ⟨w.heap.size, 0, none⟩ 1 1 [.int .u8 (31 - (d : Int))] rfl rfl (cell_one_new _ _ _) (by simp [Value.oneCell']) (by simp [maxLen]; omega) (by omega) (by simp; omega) ?_; intro v' w2 hown2 hgrow2 _); obtain ⟨A2, c2, rfl, ho2, hE2⟩ := own_push (b8 (31 - (d : Int))) (exc_refl _ w) hO hgrow2 hown2 (by rw [b8_toNat]; omega); have hsz := hE2.size; clear hown2 hgrow2))
  have HB := big_any (B := B) (A := A2) (c := c2) (n := d) (x := y) (by omega) ho2 (by simp; omega) hw8 (by omega)
  rw [show bs ++ [b8 (31 - (d : Int))] ++ bigB y d = fin from by rw [HF.out]; simp, show (bs ++ [b8 (31 - (d : Int))]).length = bs.length + 1 by simp] at HB
  refine HB.mono ?_
  rintro e9 w9 ⟨A9, c9, rfl, ho9, hE9⟩
  clear HB
  go_wp2
  go_ret
  exact ⟨A9, c9, rfl, ho9, hE2.trans hE9⟩
theorem putInt_any (hB : B ≤ w.heap.size) (hO : Own 5 B w A c bs) (hl : bs.length ≤ 1099511627776 + 16) (hi : -9223372036854775808 ≤ i ∧ i ≤ 9223372036854775807) :
    Calls Try.prog 63 #[.slice A bs.length c, .int .i64 i] w (PutIn B w (bs ++ putI i)) := by
  unfold putI
  by_cases hp : 0 ≤ i
  · rw [if_pos hp]
    obtain ⟨n, rfl⟩ := Int.eq_ofNat_of_zero_le hp
    exact putInt_p hB hO hl (by omega)
  · rw [if_neg hp]
    exact putInt_n hB hO hl (by omega) (n := (-1 - i).toNat) (by omega) (by omega)
end
end Go.Proofs.Ytbjfgnkjmfcokaa
