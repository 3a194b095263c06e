/- Layer 3: contracts of the small functions over reals, bools and whole numbers. No condition but that a number of 64 bits is below 2^64. -/
import Derived.Test.YtbjfgnkjmfcokaaTreal
import Derived.Test.YtbjfgnkjmfcokaaBcmp
import Derived.Laws.StandIn
import Derived.WalkLawsBesides
namespace Go.Proofs.Ytbjfgnkjmfcokaa
open Go.RowKit Go.Proofs
theorem run_bits64 (b : Nat) (w : World) : (callFunc 50 #[.float .f64 b]).run Try.prog w = .ok (.value (.int .u64 (b : Int))) w := by
  rw [run_callFunc_standIn Try.func50 (by kernel_rfl) (by kernel_rfl) (by kernel_rfl) (by kernel_rfl) (e := Extern.MathFloatBits.float64bits)]
  rfl
theorem run_frombits (x : Int) (w : World) : (callFunc 72 #[.int .u64 x]).run Try.prog w = .ok (.value (.float .f64 x.toNat)) w := by
  rw [run_callFunc_standIn Try.func72 (by kernel_rfl) (by kernel_rfl) (by kernel_rfl) (by kernel_rfl) (e := Extern.MathFloatBits.float64frombits)]
  rfl
section
variable {w : World}
theorem real64_any {x : Nat} : Calls Try.prog 52 #[.int .u64 x] w fun e w' => e = .returned (.float .f64 x) ∧ w = w' := by
  have hrun := run_frombits
  go_enter Try.func52, Try.ntmps52
  go_wp2
  go_ret
  exact ⟨rfl, rfl⟩
theorem zero_any {x : Nat} : Calls Try.prog 53 #[.float .f64 x] w fun e w' => e = .returned (.bool ((x : Int) == 0)) ∧ w = w' := by
  have hrun := run_bits64
  go_enter Try.func53, Try.ntmps53
  go_wp2
  go_ret
  exact ⟨rfl, rfl⟩
theorem nan_any : Calls Try.prog 73 #[] w fun e w' => e = .returned (.float .f64 9221120237041090561) ∧ w = w' := by
  have hrun := run_frombits
  go_enter Try.func73, Try.ntmps73
  go_wp2
  go_ret
  exact ⟨rfl, rfl⟩
theorem tone_any {x : Nat} : Calls Try.prog 54 #[.float .f64 x] w fun e w' => e = .returned (.float .f64 (oneN x)) ∧ w = w' := by
  have hs := neq_self x
  have hf : oneN x = if nanN x then 9221120237041090561 else x := rfl
  cases hn : nanN x with
  | true =>
    rw [hn] at hs hf
    simp only [if_true] at hf
    rw [hf]
    clear hf
    go_enter Try.func54, Try.ntmps54
    go_wp2_with (go_at_call 73; refine nan_any.mono ?_; rintro e w' ⟨rfl, rfl⟩)
    go_ret
    exact ⟨rfl, rfl⟩
  | false =>
    rw [hn] at hs hf
    rw [if_neg (by simp)] at hf
    rw [hf]
    clear hf
    go_enter Try.func54, Try.ntmps54
    go_wp2
    go_ret
    exact ⟨rfl, rfl⟩
theorem rank_any {x : Nat} (hx : x < 18446744073709551616) : Calls Try.prog 58 #[.float .f64 x] w fun e w' => e = .returned (.int .u64 (rankN x)) ∧ w = w' := by
  have hrun := run_bits64
  have hb := oneN_bd hx
  have hr : (rankN x : Int) = if (9223372036854775808 : Int) ≤ (oneN x : Int) then 18446744073709551615 - (oneN x : Int) else (oneN x : Int) + 9223372036854775808 := by
    unfold rankN
    split <;> split <;> omega
  have hc := tone_any (x := x) (w := w)
  revert hc
  generalize oneN x = y at *
  intro hc
  have h1 := u64_not (x := (y : Int)) (by omega) (by omega)
  rw [hr]
  clear hr
  by_cases hlt : (y : Int) < 9223372036854775808
  · have h2 := u64_orTop (x := (y : Int)) (by omega) hlt
    have hd : (y : Int) / 9223372036854775808 = 0 := by omega
    rw [if_neg (by omega)]
    clear hlt h1
    go_enter Try.func58, Try.ntmps58
    go_wp2_with (go_at_call 54; refine hc.mono ?_; rintro e w' ⟨rfl, rfl⟩; clear hc)
    go_ret
    exact ⟨rfl, rfl⟩
  · have hd : (y : Int) / 9223372036854775808 = 1 := by omega
    rw [if_pos (by omega)]
    clear hlt
    go_enter Try.func58, Try.ntmps58
    go_wp2_with (go_at_call 54; refine hc.mono ?_; rintro e w' ⟨rfl, rfl⟩; clear hc)
    go_ret
    exact ⟨rfl, rfl⟩
theorem unrank_any {x : Nat} (hx : x < 18446744073709551616) : Calls Try.prog 82 #[.int .u64 x] w fun e w' => e = .returned (.float .f64 (unrankN x)) ∧ w = w' := by
  have hrun := run_frombits
  have h1 := u64_not (x := (x : Int)) (by omega) (by omega)
  unfold unrankN
  by_cases hlt : (x : Int) < 9223372036854775808
  · have hd : (x : Int) / 9223372036854775808 = 0 := by omega
    have he : (18446744073709551615 - (x : Int)).toNat = 18446744073709551615 - x := by omega
    rw [if_neg (by omega)]
    clear hlt
    go_enter Try.func82, Try.ntmps82
    go_wp2
    go_ret
    exact ⟨rfl, rfl⟩
  · have h2 := u64_andNotTop (x := (x : Int)) (by omega) (by omega)
    have hd : (x : Int) / 9223372036854775808 = 1 := by omega
    have he : ((x : Int) - 9223372036854775808).toNat = x - 9223372036854775808 := by omega
    rw [if_pos (by omega)]
    clear hlt
    go_enter Try.func82, Try.ntmps82
    go_wp2
    go_ret
    exact ⟨rfl, rfl⟩
theorem dnan_any {x : Nat} (hx : x < 18446744073709551616) : Calls Try.prog 71 #[.int .u64 x] w fun e w' => e = .returned (.bool (nanN x)) ∧ w = w' := by
  have h1 := u64_and_mod (x := (x : Int) / 4503599627370496) 11 2047 (by omega) (by omega) (by decide) (by decide)
  have h2 := u64_and_mod (x := (x : Int)) 52 4503599627370495 (by omega) (by omega) (by decide) (by decide)
  rw [show (2 : Int) ^ 11 = 2048 by decide] at h1
  rw [show (2 : Int) ^ 52 = 4503599627370496 by decide] at h2
  have hn := Lib.hid (nan_bits x)
  go_enter Try.func71, Try.ntmps71
  by_cases h3 : (x : Int) / 4503599627370496 % 2048 = 2047
  · go_wp2
    go_ret
    refine ⟨ret_bool ?_, rfl⟩
    rw [← hn.out]
    simp [h3]
  · go_wp2
    go_ret
    refine ⟨ret_bool ?_, rfl⟩
    rw [← hn.out]
    simp [h3]
theorem done_any {x : Nat} (hx : x < 18446744073709551616) : Calls Try.prog 51 #[.int .u64 x] w fun e w' => e = .returned (.int .u64 (oneN x)) ∧ w = w' := by
  have hf : oneN x = if nanN x then 9221120237041090561 else x := rfl
  cases hn : nanN x with
  | true =>
    rw [hn] at hf
    simp only [if_true] at hf
    rw [hf]
    clear hf
    go_enter Try.func51, Try.ntmps51
    go_wp2_with (go_at_call 71; refine (dnan_any hx).mono ?_; rintro e w' ⟨rfl, rfl⟩; rw [hn])
    go_ret
    exact ⟨rfl, rfl⟩
  | false =>
    rw [hn] at hf
    rw [if_neg (by simp)] at hf
    rw [hf]
    clear hf
    go_enter Try.func51, Try.ntmps51
    go_wp2_with (go_at_call 71; refine (dnan_any hx).mono ?_; rintro e w' ⟨rfl, rfl⟩; rw [hn])
    go_ret
    exact ⟨rfl, rfl⟩
theorem truth_any {b : Bool} : Calls Try.prog 55 #[.bool b] w fun e w' => e = .returned (.int .i64 (if b then 1 else 0)) ∧ w = w' := by
  cases b <;>
  · go_enter Try.func55, Try.ntmps55
    go_wp2
    go_ret
    exact ⟨rfl, rfl⟩
theorem ints_any {a b : Int} : Calls Try.prog 43 #[.int .i64 a, .int .i64 b] w fun e w' => e = .returned (.int .i64 (cmpI a b)) ∧ w = w' := by
  unfold cmpI
  by_cases h1 : a < b
  · rw [if_pos h1]
    go_enter Try.func43, Try.ntmps43
    go_wp2
    go_ret
    exact ⟨rfl, rfl⟩
  · rw [if_neg h1]
    by_cases h2 : b < a
    · rw [if_pos h2]
      go_enter Try.func43, Try.ntmps43
      go_wp2
      go_ret
      exact ⟨rfl, rfl⟩
    · rw [if_neg h2]
      go_enter Try.func43, Try.ntmps43
      go_wp2
      go_ret
      exact ⟨rfl, rfl⟩
theorem bools_any {a b : Bool} : Calls Try.prog 61 #[.bool a, .bool b] w fun e w' => e = .returned (.int .i64 (cmpI (if a then 1 else 0) (if b then 1 else 0))) ∧ w = w' := by
  cases a <;> cases b <;>
  · go_enter Try.func61, Try.ntmps61
    go_wp2
    go_ret
    exact ⟨rfl, rfl⟩
theorem nanI_any {x : Int} : Calls Try.prog 60 #[.int .i64 x] w fun e w' => e = .returned (.bool false) ∧ w = w' := by
  go_enter Try.func60, Try.ntmps60
  go_wp2
  go_ret
  exact ⟨by simp, rfl⟩
theorem nanL_any {x : Int} : Calls Try.prog 74 #[.int .i64 x] w fun e w' => e = .returned (.bool false) ∧ w = w' := by
  go_enter Try.func74, Try.ntmps74
  go_wp2
  go_ret
  exact ⟨by simp, rfl⟩
theorem nanU_any {x : Int} : Calls Try.prog 75 #[.int .u64 x] w fun e w' => e = .returned (.bool false) ∧ w = w' := by
  go_enter Try.func75, Try.ntmps75
  go_wp2
  go_ret
  exact ⟨by simp, rfl⟩
theorem cmpInt_any {a b : Int} : Calls Try.prog 41 #[.int .i64 a, .int .i64 b] w fun e w' => e = .returned (.int .i64 (cmpI a b)) ∧ w = w' := by
  unfold cmpI
  by_cases h1 : a < b
  · rw [if_pos h1]
    go_enter Try.func41, Try.ntmps41
    go_wp2_with (go_at_call 60; refine nanI_any.mono ?_; rintro e w' ⟨rfl, rfl⟩)
    go_ret
    exact ⟨rfl, rfl⟩
  · rw [if_neg h1]
    by_cases h2 : b < a
    · rw [if_pos h2]
      go_enter Try.func41, Try.ntmps41
      go_wp2_with (go_at_call 60; refine nanI_any.mono ?_; rintro e w' ⟨rfl, rfl⟩)
      go_ret
      exact ⟨rfl, rfl⟩
    · rw [if_neg h2]
      go_enter Try.func41, Try.ntmps41
      go_wp2_with (go_at_call 60; refine nanI_any.mono ?_; rintro e w' ⟨rfl, rfl⟩)
      go_ret
      exact ⟨rfl, rfl⟩
theorem cmpLong_any {a b : Int} : Calls Try.prog 56 #[.int .i64 a, .int .i64 b] w fun e w' => e = .returned (.int .i64 (cmpI a b)) ∧ w = w' := by
  unfold cmpI
  by_cases h1 : a < b
  · rw [if_pos h1]
    go_enter Try.func56, Try.ntmps56
    go_wp2_with (go_at_call 74; refine nanL_any.mono ?_; rintro e w' ⟨rfl, rfl⟩)
    go_ret
    exact ⟨rfl, rfl⟩
  · rw [if_neg h1]
    by_cases h2 : b < a
    · rw [if_pos h2]
      go_enter Try.func56, Try.ntmps56
      go_wp2_with (go_at_call 74; refine nanL_any.mono ?_; rintro e w' ⟨rfl, rfl⟩)
      go_ret
      exact ⟨rfl, rfl⟩
    · rw [if_neg h2]
      go_enter Try.func56, Try.ntmps56
      go_wp2_with (go_at_call 74; refine nanL_any.mono ?_; rintro e w' ⟨rfl, rfl⟩)
      go_ret
      exact ⟨rfl, rfl⟩
theorem cmpWord_any {a b : Int} : Calls Try.prog 57 #[.int .u64 a, .int .u64 b] w fun e w' => e = .returned (.int .i64 (cmpI a b)) ∧ w = w' := by
  unfold cmpI
  by_cases h1 : a < b
  · rw [if_pos h1]
    go_enter Try.func57, Try.ntmps57
    go_wp2_with (go_at_call 75; refine nanU_any.mono ?_; rintro e w' ⟨rfl, rfl⟩)
    go_ret
    exact ⟨rfl, rfl⟩
  · rw [if_neg h1]
    by_cases h2 : b < a
    · rw [if_pos h2]
      go_enter Try.func57, Try.ntmps57
      go_wp2_with (go_at_call 75; refine nanU_any.mono ?_; rintro e w' ⟨rfl, rfl⟩)
      go_ret
      exact ⟨rfl, rfl⟩
    · rw [if_neg h2]
      go_enter Try.func57, Try.ntmps57
      go_wp2_with (go_at_call 75; refine nanU_any.mono ?_; rintro e w' ⟨rfl, rfl⟩)
      go_ret
      exact ⟨rfl, rfl⟩
theorem run_cmpstring (a b : List UInt8) (w : World) : (callFunc 81 #[.string ⟨a.toArray⟩, .string ⟨b.toArray⟩]).run Try.prog w = .ok (.value (.int .i64 (cmpB a b))) w := by
  rw [run_callFunc_standIn Try.func81 (by kernel_rfl) (by kernel_rfl) (by kernel_rfl) (by kernel_rfl) (e := Extern.BytealgCompare.compare)]
  have e : ∀ x y, Extern.BytealgCompare.compare #[x, y] = (do pure (goInt (Extern.BytealgCompare.cmp (← Extern.Bytes.bytesOf x) (← Extern.Bytes.bytesOf y)))) := fun _ _ => rfl
  have r : ∀ l : List UInt8, (Extern.Bytes.bytesOf (.string ⟨l.toArray⟩)).run Try.prog w = .ok ⟨l.toArray⟩ w := fun _ => rfl
  rw [e]
  simp only [Sem.run_bind, r, Result.andThen_ok, cmp_eq]
  rfl
theorem cmpString_any {a b : List UInt8} : Calls Try.prog 76 #[.string ⟨a.toArray⟩, .string ⟨b.toArray⟩] w fun e w' => e = .returned (.int .i64 (cmpB a b)) ∧ w = w' := by
  have hrun := run_cmpstring
  go_enter Try.func76, Try.ntmps76
  go_wp2
  go_ret
  exact ⟨rfl, rfl⟩
theorem scompare_any {a b : List UInt8} : Calls Try.prog 59 #[.string ⟨a.toArray⟩, .string ⟨b.toArray⟩] w fun e w' => e = .returned (.int .i64 (cmpB a b)) ∧ w = w' := by
  go_enter Try.func59, Try.ntmps59
  go_wp2_with (go_at_call 76; refine cmpString_any.mono ?_; rintro e w' ⟨rfl, rfl⟩)
  go_ret
  exact ⟨rfl, rfl⟩
theorem cmpI_lt {a b : Int} (h : a < b) : cmpI a b = -1 := if_pos h
theorem cmpI_gt {a b : Int} (h : b < a) : cmpI a b = 1 := by unfold cmpI; rw [if_neg (by omega), if_pos h]
theorem rank_of {a : Nat} (h : nanN a = false) : rankN a = if 9223372036854775808 ≤ a then 18446744073709551615 - a else a + 9223372036854775808 := by simp [rankN, oneN, h]
theorem reals_nn {a b : Nat} (ha : a < 18446744073709551616) (hb : b < 18446744073709551616) (hna : nanN a = true) (hnb : nanN b = true) : Calls Try.prog 62 #[.int .u64 a, .int .u64 b] w fun e w' => e = .returned (.int .i64 (cmpI (rankN a) (rankN b))) ∧ w = w' := by
  go_enter Try.func62, Try.ntmps62
  go_wp2_with (go_at_call 71; refine (dnan_any (by assumption)).mono ?_; rintro e w' ⟨rfl, rfl⟩; simp only [hna, hnb])
  go_ret
  refine ⟨ret_int ?_, rfl⟩
  simp [rankN, oneN, hna, hnb, cmpI]
theorem reals_nf {a b : Nat} (ha : a < 18446744073709551616) (hb : b < 18446744073709551616) (hna : nanN a = true) (hnb : nanN b = false) : Calls Try.prog 62 #[.int .u64 a, .int .u64 b] w fun e w' => e = .returned (.int .i64 (cmpI (rankN a) (rankN b))) ∧ w = w' := by
  go_enter Try.func62, Try.ntmps62
  go_wp2_with (go_at_call 71; refine (dnan_any (by assumption)).mono ?_; rintro e w' ⟨rfl, rfl⟩; simp only [hna, hnb])
  go_ret
  refine ⟨ret_int ?_, rfl⟩
  have h2 : ¬ 9218868437227405312 < b % 9223372036854775808 := of_decide_eq_false hnb
  rw [cmpI_gt]
  simp [rankN, oneN, hna, hnb]
  split <;> omega
theorem reals_fn {a b : Nat} (ha : a < 18446744073709551616) (hb : b < 18446744073709551616) (hna : nanN a = false) (hnb : nanN b = true) : Calls Try.prog 62 #[.int .u64 a, .int .u64 b] w fun e w' => e = .returned (.int .i64 (cmpI (rankN a) (rankN b))) ∧ w = w' := by
  go_enter Try.func62, Try.ntmps62
  go_wp2_with (go_at_call 71; refine (dnan_any (by assumption)).mono ?_; rintro e w' ⟨rfl, rfl⟩; simp only [hna, hnb])
  go_ret
  refine ⟨ret_int ?_, rfl⟩
  have h2 : ¬ 9218868437227405312 < a % 9223372036854775808 := of_decide_eq_false hna
  rw [cmpI_lt]
  simp [rankN, oneN, hna, hnb]
  split <;> omega
theorem reals_00l {a b : Nat} (ha : a < 18446744073709551616) (hb : b < 18446744073709551616) (hna : nanN a = false) (hnb : nanN b = false) (hsa : a < 9223372036854775808) (hsb : b < 9223372036854775808) (hab : a < b) : Calls Try.prog 62 #[.int .u64 a, .int .u64 b] w fun e w' => e = .returned (.int .i64 (cmpI (rankN a) (rankN b))) ∧ w = w' := by
  have hq : cmpI (rankN a) (rankN b) = -1 := by
    rw [rank_of hna, rank_of hnb]
    apply cmpI_lt
    split <;> (try split) <;> omega
  have HQ := Lib.hid hq
  clear hq
  have hd1 : (a : Int) / 9223372036854775808 = 0 := by omega
  have hd2 : (b : Int) / 9223372036854775808 = 0 := by omega
  have hl : (a : Int) < (b : Int) := by omega
  have hl2 : ¬ (a : Int) = (b : Int) := by omega
  clear hsa hsb hab
  go_enter Try.func62, Try.ntmps62
  go_wp2_with (go_at_call 71; refine (dnan_any (by assumption)).mono ?_; rintro e w' ⟨rfl, rfl⟩; simp only [hna, hnb])
  go_ret
  exact ⟨ret_int HQ.out.symm, rfl⟩
theorem reals_00e {a b : Nat} (ha : a < 18446744073709551616) (hb : b < 18446744073709551616) (hna : nanN a = false) (hnb : nanN b = false) (hsa : a < 9223372036854775808) (hsb : b < 9223372036854775808) (hab : a = b) : Calls Try.prog 62 #[.int .u64 a, .int .u64 b] w fun e w' => e = .returned (.int .i64 (cmpI (rankN a) (rankN b))) ∧ w = w' := by
  have hq : cmpI (rankN a) (rankN b) = 0 := by
    rw [rank_of hna, rank_of hnb]
    rw [cmpI_eq, hab]
  have HQ := Lib.hid hq
  clear hq
  have hd1 : (a : Int) / 9223372036854775808 = 0 := by omega
  have hd2 : (b : Int) / 9223372036854775808 = 0 := by omega
  subst hab
  clear hsa hsb
  go_enter Try.func62, Try.ntmps62
  go_wp2_with (go_at_call 71; refine (dnan_any ha).mono ?_; rintro e w' ⟨rfl, rfl⟩; rw [hna])
  go_ret
  exact ⟨ret_int HQ.out.symm, rfl⟩
theorem reals_00g {a b : Nat} (ha : a < 18446744073709551616) (hb : b < 18446744073709551616) (hna : nanN a = false) (hnb : nanN b = false) (hsa : a < 9223372036854775808) (hsb : b < 9223372036854775808) (hab : b < a) : Calls Try.prog 62 #[.int .u64 a, .int .u64 b] w fun e w' => e = .returned (.int .i64 (cmpI (rankN a) (rankN b))) ∧ w = w' := by
  have hq : cmpI (rankN a) (rankN b) = 1 := by
    rw [rank_of hna, rank_of hnb]
    apply cmpI_gt
    split <;> (try split) <;> omega
  have HQ := Lib.hid hq
  clear hq
  have hd1 : (a : Int) / 9223372036854775808 = 0 := by omega
  have hd2 : (b : Int) / 9223372036854775808 = 0 := by omega
  have hl : ¬ (a : Int) < (b : Int) := by omega
  have hl2 : ¬ (a : Int) = (b : Int) := by omega
  clear hsa hsb hab
  go_enter Try.func62, Try.ntmps62
  go_wp2_with (go_at_call 71; refine (dnan_any (by assumption)).mono ?_; rintro e w' ⟨rfl, rfl⟩; simp only [hna, hnb])
  go_ret
  exact ⟨ret_int HQ.out.symm, rfl⟩
theorem reals_01 {a b : Nat} (ha : a < 18446744073709551616) (hb : b < 18446744073709551616) (hna : nanN a = false) (hnb : nanN b = false) (hsa : a < 9223372036854775808) (hsb : b ≥ 9223372036854775808) : Calls Try.prog 62 #[.int .u64 a, .int .u64 b] w fun e w' => e = .returned (.int .i64 (cmpI (rankN a) (rankN b))) ∧ w = w' := by
  have hq : cmpI (rankN a) (rankN b) = 1 := by
    rw [rank_of hna, rank_of hnb]
    apply cmpI_gt
    split <;> (try split) <;> omega
  have HQ := Lib.hid hq
  clear hq
  have hd1 : (a : Int) / 9223372036854775808 = 0 := by omega
  have hd2 : (b : Int) / 9223372036854775808 = 1 := by omega
  clear hsa hsb
  go_enter Try.func62, Try.ntmps62
  go_wp2_with (go_at_call 71; refine (dnan_any (by assumption)).mono ?_; rintro e w' ⟨rfl, rfl⟩; simp only [hna, hnb])
  go_ret
  exact ⟨ret_int HQ.out.symm, rfl⟩
theorem reals_10 {a b : Nat} (ha : a < 18446744073709551616) (hb : b < 18446744073709551616) (hna : nanN a = false) (hnb : nanN b = false) (hsa : a ≥ 9223372036854775808) (hsb : b < 9223372036854775808) : Calls Try.prog 62 #[.int .u64 a, .int .u64 b] w fun e w' => e = .returned (.int .i64 (cmpI (rankN a) (rankN b))) ∧ w = w' := by
  have hq : cmpI (rankN a) (rankN b) = -1 := by
    rw [rank_of hna, rank_of hnb]
    apply cmpI_lt
    split <;> (try split) <;> omega
  have HQ := Lib.hid hq
  clear hq
  have hd1 : (a : Int) / 9223372036854775808 = 1 := by omega
  have hd2 : (b : Int) / 9223372036854775808 = 0 := by omega
  clear hsa hsb
  go_enter Try.func62, Try.ntmps62
  go_wp2_with (go_at_call 71; refine (dnan_any (by assumption)).mono ?_; rintro e w' ⟨rfl, rfl⟩; simp only [hna, hnb])
  go_ret
  exact ⟨ret_int HQ.out.symm, rfl⟩
theorem reals_11l {a b : Nat} (ha : a < 18446744073709551616) (hb : b < 18446744073709551616) (hna : nanN a = false) (hnb : nanN b = false) (hsa : a ≥ 9223372036854775808) (hsb : b ≥ 9223372036854775808) (hab : a < b) : Calls Try.prog 62 #[.int .u64 a, .int .u64 b] w fun e w' => e = .returned (.int .i64 (cmpI (rankN a) (rankN b))) ∧ w = w' := by
  have hq : cmpI (rankN a) (rankN b) = 1 := by
    rw [rank_of hna, rank_of hnb]
    apply cmpI_gt
    split <;> (try split) <;> omega
  have HQ := Lib.hid hq
  clear hq
  have hd1 : (a : Int) / 9223372036854775808 = 1 := by omega
  have hd2 : (b : Int) / 9223372036854775808 = 1 := by omega
  have hl : (a : Int) < (b : Int) := by omega
  have hl2 : ¬ (a : Int) = (b : Int) := by omega
  clear hsa hsb hab
  go_enter Try.func62, Try.ntmps62
  go_wp2_with (go_at_call 71; refine (dnan_any (by assumption)).mono ?_; rintro e w' ⟨rfl, rfl⟩; simp only [hna, hnb])
  go_ret
  exact ⟨ret_int HQ.out.symm, rfl⟩
theorem reals_11e {a b : Nat} (ha : a < 18446744073709551616) (hb : b < 18446744073709551616) (hna : nanN a = false) (hnb : nanN b = false) (hsa : a ≥ 9223372036854775808) (hsb : b ≥ 9223372036854775808) (hab : a = b) : Calls Try.prog 62 #[.int .u64 a, .int .u64 b] w fun e w' => e = .returned (.int .i64 (cmpI (rankN a) (rankN b))) ∧ w = w' := by
  have hq : cmpI (rankN a) (rankN b) = 0 := by
    rw [rank_of hna, rank_of hnb]
    rw [cmpI_eq, hab]
  have HQ := Lib.hid hq
  clear hq
  have hd1 : (a : Int) / 9223372036854775808 = 1 := by omega
  have hd2 : (b : Int) / 9223372036854775808 = 1 := by omega
  subst hab
  clear hsa hsb
  go_enter Try.func62, Try.ntmps62
  go_wp2_with (go_at_call 71; refine (dnan_any ha).mono ?_; rintro e w' ⟨rfl, rfl⟩; rw [hna])
  go_ret
  exact ⟨ret_int HQ.out.symm, rfl⟩
theorem reals_11g {a b : Nat} (ha : a < 18446744073709551616) (hb : b < 18446744073709551616) (hna : nanN a = false) (hnb : nanN b = false) (hsa : a ≥ 9223372036854775808) (hsb : b ≥ 9223372036854775808) (hab : b < a) : Calls Try.prog 62 #[.int .u64 a, .int .u64 b] w fun e w' => e = .returned (.int .i64 (cmpI (rankN a) (rankN b))) ∧ w = w' := by
  have hq : cmpI (rankN a) (rankN b) = -1 := by
    rw [rank_of hna, rank_of hnb]
    apply cmpI_lt
    split <;> (try split) <;> omega
  have HQ := Lib.hid hq
  clear hq
  have hd1 : (a : Int) / 9223372036854775808 = 1 := by omega
  have hd2 : (b : Int) / 9223372036854775808 = 1 := by omega
  have hl : ¬ (a : Int) < (b : Int) := by omega
  have hl2 : ¬ (a : Int) = (b : Int) := by omega
  clear hsa hsb hab
  go_enter Try.func62, Try.ntmps62
  go_wp2_with (go_at_call 71; refine (dnan_any (by assumption)).mono ?_; rintro e w' ⟨rfl, rfl⟩; simp only [hna, hnb])
  go_ret
  exact ⟨ret_int HQ.out.symm, rfl⟩
theorem reals_any {a b : Nat} (ha : a < 18446744073709551616) (hb : b < 18446744073709551616)  : Calls Try.prog 62 #[.int .u64 a, .int .u64 b] w fun e w' => e = .returned (.int .i64 (cmpI (rankN a) (rankN b))) ∧ w = w' := by
  cases hna : nanN a <;> cases hnb : nanN b
  · rcases Nat.lt_or_ge a 9223372036854775808 with hsa | hsa <;> rcases Nat.lt_or_ge b 9223372036854775808 with hsb | hsb
    · rcases Nat.lt_trichotomy a b with h | h | h
      · exact reals_00l ha hb hna hnb hsa hsb h
      · exact reals_00e ha hb hna hnb hsa hsb h
      · exact reals_00g ha hb hna hnb hsa hsb h
    · exact reals_01 ha hb hna hnb hsa hsb
    · exact reals_10 ha hb hna hnb hsa hsb
    · rcases Nat.lt_trichotomy a b with h | h | h
      · exact reals_11l ha hb hna hnb hsa hsb h
      · exact reals_11e ha hb hna hnb hsa hsb h
      · exact reals_11g ha hb hna hnb hsa hsb h
  · exact reals_fn ha hb hna hnb
  · exact reals_nf ha hb hna hnb
  · exact reals_nn ha hb hna hnb
end
end Go.Proofs.Ytbjfgnkjmfcokaa
