/- Layer 3: contracts of Valid and Same, of the program and of the document. No condition but the bounds of the types. -/
import Derived.Test.YtbjfgnkjmfcokaaTenc
import Derived.Test.YtbjfgnkjmfcokaaTcmp
namespace Go.Proofs.Ytbjfgnkjmfcokaa
open Go.RowKit Go.Proofs
set_option linter.unusedVariables false
section
variable {w : World} {k i : Int} {b : Bool} {r e m : Nat} {t : List UInt8}
theorem str_nil (t : List UInt8) : ((⟨t.toArray⟩ : ByteArray) = ⟨#[]⟩) ↔ t = [] := by
  constructor
  · intro h
    injection h with h
    simpa using congrArg Array.toList h
  · rintro rfl; rfl
set_option maxRecDepth 100000 in
set_option maxHeartbeats 1000000 in
theorem tvalid_0 : Calls Try.prog 35 #[(Vl.mk 0 b i r e m t).p] w fun e' w' => e' = .returned (.bool (validV (Vl.mk 0 b i r e m t))) ∧ Ext w w' := by
  have hsf := run_store_float Try.prog
  have hsc := run_store_complex Try.prog
  obtain ⟨q, hq⟩ : ∃ q, validV (Vl.mk 0 b i r e m t) = q := ⟨_, rfl⟩
  rw [hq]
  unfold validV at hq
  simp only at hq
  have HQ := Lib.hid hq
  clear hq
  have hn := str_nil t
  cases b <;>
  · go_enter Try.func35, Try.ntmps35
    go_wp2_with (go_at_call 53; refine zero_any.mono ?_; rintro e' w' ⟨rfl, rfl⟩)
    all_goals go_ret
    all_goals refine ⟨ret_bool ?_, (by first | exact ext_alloc _ _ | exact ext_store (ext_alloc _ _) (Nat.le_refl _) _)⟩
    all_goals rw [← HQ.out]
    all_goals simp_all
set_option maxRecDepth 100000 in
set_option maxHeartbeats 1000000 in
theorem tvalid_1 : Calls Try.prog 35 #[(Vl.mk 1 b i r e m t).p] w fun e' w' => e' = .returned (.bool (validV (Vl.mk 1 b i r e m t))) ∧ Ext w w' := by
  have hsf := run_store_float Try.prog
  have hsc := run_store_complex Try.prog
  obtain ⟨q, hq⟩ : ∃ q, validV (Vl.mk 1 b i r e m t) = q := ⟨_, rfl⟩
  rw [hq]
  unfold validV at hq
  simp only at hq
  have HQ := Lib.hid hq
  clear hq
  have hn := str_nil t
  cases b <;>
  · go_enter Try.func35, Try.ntmps35
    go_wp2_with (go_at_call 53; refine zero_any.mono ?_; rintro e' w' ⟨rfl, rfl⟩)
    all_goals go_ret
    all_goals refine ⟨ret_bool ?_, (by first | exact ext_alloc _ _ | exact ext_store (ext_alloc _ _) (Nat.le_refl _) _)⟩
    all_goals rw [← HQ.out]
    all_goals simp_all
set_option maxRecDepth 100000 in
set_option maxHeartbeats 1000000 in
theorem tvalid_2 : Calls Try.prog 35 #[(Vl.mk 2 b i r e m t).p] w fun e' w' => e' = .returned (.bool (validV (Vl.mk 2 b i r e m t))) ∧ Ext w w' := by
  have hsf := run_store_float Try.prog
  have hsc := run_store_complex Try.prog
  obtain ⟨q, hq⟩ : ∃ q, validV (Vl.mk 2 b i r e m t) = q := ⟨_, rfl⟩
  rw [hq]
  unfold validV at hq
  simp only at hq
  have HQ := Lib.hid hq
  clear hq
  have hn := str_nil t
  cases b <;>
  · go_enter Try.func35, Try.ntmps35
    go_wp2_with (go_at_call 53; refine zero_any.mono ?_; rintro e' w' ⟨rfl, rfl⟩)
    all_goals go_ret
    all_goals refine ⟨ret_bool ?_, (by first | exact ext_alloc _ _ | exact ext_store (ext_alloc _ _) (Nat.le_refl _) _)⟩
    all_goals rw [← HQ.out]
    all_goals simp_all
set_option maxRecDepth 100000 in
set_option maxHeartbeats 1000000 in
theorem tvalid_3 : Calls Try.prog 35 #[(Vl.mk 3 b i r e m t).p] w fun e' w' => e' = .returned (.bool (validV (Vl.mk 3 b i r e m t))) ∧ Ext w w' := by
  have hsf := run_store_float Try.prog
  have hsc := run_store_complex Try.prog
  obtain ⟨q, hq⟩ : ∃ q, validV (Vl.mk 3 b i r e m t) = q := ⟨_, rfl⟩
  rw [hq]
  unfold validV at hq
  simp only at hq
  have HQ := Lib.hid hq
  clear hq
  have hn := str_nil t
  cases b <;>
  · go_enter Try.func35, Try.ntmps35
    go_wp2_with (go_at_call 53; refine zero_any.mono ?_; rintro e' w' ⟨rfl, rfl⟩)
    all_goals go_ret
    all_goals refine ⟨ret_bool ?_, (by first | exact ext_alloc _ _ | exact ext_store (ext_alloc _ _) (Nat.le_refl _) _)⟩
    all_goals rw [← HQ.out]
    all_goals simp_all
set_option maxRecDepth 100000 in
set_option maxHeartbeats 1000000 in
theorem tvalid_4 : Calls Try.prog 35 #[(Vl.mk 4 b i r e m t).p] w fun e' w' => e' = .returned (.bool (validV (Vl.mk 4 b i r e m t))) ∧ Ext w w' := by
  have hsf := run_store_float Try.prog
  have hsc := run_store_complex Try.prog
  obtain ⟨q, hq⟩ : ∃ q, validV (Vl.mk 4 b i r e m t) = q := ⟨_, rfl⟩
  rw [hq]
  unfold validV at hq
  simp only at hq
  have HQ := Lib.hid hq
  clear hq
  have hn := str_nil t
  cases b <;>
  · go_enter Try.func35, Try.ntmps35
    go_wp2_with (go_at_call 53; refine zero_any.mono ?_; rintro e' w' ⟨rfl, rfl⟩)
    all_goals go_ret
    all_goals refine ⟨ret_bool ?_, (by first | exact ext_alloc _ _ | exact ext_store (ext_alloc _ _) (Nat.le_refl _) _)⟩
    all_goals rw [← HQ.out]
    all_goals simp_all
set_option maxRecDepth 100000 in
set_option maxHeartbeats 1000000 in
theorem tvalid_5 : Calls Try.prog 35 #[(Vl.mk 5 b i r e m t).p] w fun e' w' => e' = .returned (.bool (validV (Vl.mk 5 b i r e m t))) ∧ Ext w w' := by
  have hsf := run_store_float Try.prog
  have hsc := run_store_complex Try.prog
  obtain ⟨q, hq⟩ : ∃ q, validV (Vl.mk 5 b i r e m t) = q := ⟨_, rfl⟩
  rw [hq]
  unfold validV at hq
  simp only at hq
  have HQ := Lib.hid hq
  clear hq
  have hn := str_nil t
  cases b <;>
  · go_enter Try.func35, Try.ntmps35
    go_wp2_with (go_at_call 53; refine zero_any.mono ?_; rintro e' w' ⟨rfl, rfl⟩)
    all_goals go_ret
    all_goals refine ⟨ret_bool ?_, (by first | exact ext_alloc _ _ | exact ext_store (ext_alloc _ _) (Nat.le_refl _) _)⟩
    all_goals rw [← HQ.out]
    all_goals simp_all
set_option maxRecDepth 100000 in
set_option maxHeartbeats 1000000 in
theorem tvalid_6 (h0 : ¬ k = 0) (h1 : ¬ k = 1) (h2 : ¬ k = 2) (h3 : ¬ k = 3) (h4 : ¬ k = 4) (h5 : ¬ k = 5) : Calls Try.prog 35 #[(Vl.mk k b i r e m t).p] w fun e' w' => e' = .returned (.bool (validV (Vl.mk k b i r e m t))) ∧ Ext w w' := by
  have hsf := run_store_float Try.prog
  have hsc := run_store_complex Try.prog
  obtain ⟨q, hq⟩ : ∃ q, validV (Vl.mk k b i r e m t) = q := ⟨_, rfl⟩
  rw [hq]
  unfold validV at hq
  simp only at hq
  have HQ := Lib.hid hq
  clear hq
  go_enter Try.func35, Try.ntmps35
  go_wp2
  go_ret
  refine ⟨ret_bool ?_, ext_alloc _ _⟩
  rw [← HQ.out]
  by_cases hk : 0 ≤ k
  · rw [decide_eq_false (show ¬ k ≤ 5 by omega)]
    simp
  · rw [decide_eq_false hk]
    rfl
theorem tvalid_any {v : Vl} : Calls Try.prog 35 #[v.p] w fun e' w' => e' = .returned (.bool (validV v)) ∧ Ext w w' := by
  obtain ⟨k, b, i, r, e, m, t⟩ := v
  by_cases h0 : k = 0
  · subst h0; exact tvalid_0
  by_cases h1 : k = 1
  · subst h1; exact tvalid_1
  by_cases h2 : k = 2
  · subst h2; exact tvalid_2
  by_cases h3 : k = 3
  · subst h3; exact tvalid_3
  by_cases h4 : k = 4
  · subst h4; exact tvalid_4
  by_cases h5 : k = 5
  · subst h5; exact tvalid_5
  exact tvalid_6 h0 h1 h2 h3 h4 h5
set_option maxRecDepth 100000 in
set_option maxHeartbeats 1000000 in
theorem dvalid_0 : Calls Try.prog 30 #[(Vl.mk 0 b i r e m t).d] w fun e' w' => e' = .returned (.bool (validV (Vl.mk 0 b i r e m t))) ∧ Ext w w' := by
  have hsf := run_store_float Try.prog
  have hsc := run_store_complex Try.prog
  obtain ⟨q, hq⟩ : ∃ q, validV (Vl.mk 0 b i r e m t) = q := ⟨_, rfl⟩
  rw [hq]
  unfold validV at hq
  simp only at hq
  have HQ := Lib.hid hq
  clear hq
  have hn := str_nil t
  cases b <;>
  · go_enter Try.func30, Try.ntmps30
    go_wp2_with (go_at_call 53; refine zero_any.mono ?_; rintro e' w' ⟨rfl, rfl⟩)
    all_goals go_ret
    all_goals refine ⟨ret_bool ?_, (by first | exact ext_alloc _ _ | exact ext_store (ext_alloc _ _) (Nat.le_refl _) _)⟩
    all_goals rw [← HQ.out]
    all_goals simp_all
set_option maxRecDepth 100000 in
set_option maxHeartbeats 1000000 in
theorem dvalid_1 : Calls Try.prog 30 #[(Vl.mk 1 b i r e m t).d] w fun e' w' => e' = .returned (.bool (validV (Vl.mk 1 b i r e m t))) ∧ Ext w w' := by
  have hsf := run_store_float Try.prog
  have hsc := run_store_complex Try.prog
  obtain ⟨q, hq⟩ : ∃ q, validV (Vl.mk 1 b i r e m t) = q := ⟨_, rfl⟩
  rw [hq]
  unfold validV at hq
  simp only at hq
  have HQ := Lib.hid hq
  clear hq
  have hn := str_nil t
  cases b <;>
  · go_enter Try.func30, Try.ntmps30
    go_wp2_with (go_at_call 53; refine zero_any.mono ?_; rintro e' w' ⟨rfl, rfl⟩)
    all_goals go_ret
    all_goals refine ⟨ret_bool ?_, (by first | exact ext_alloc _ _ | exact ext_store (ext_alloc _ _) (Nat.le_refl _) _)⟩
    all_goals rw [← HQ.out]
    all_goals simp_all
set_option maxRecDepth 100000 in
set_option maxHeartbeats 1000000 in
theorem dvalid_2 : Calls Try.prog 30 #[(Vl.mk 2 b i r e m t).d] w fun e' w' => e' = .returned (.bool (validV (Vl.mk 2 b i r e m t))) ∧ Ext w w' := by
  have hsf := run_store_float Try.prog
  have hsc := run_store_complex Try.prog
  obtain ⟨q, hq⟩ : ∃ q, validV (Vl.mk 2 b i r e m t) = q := ⟨_, rfl⟩
  rw [hq]
  unfold validV at hq
  simp only at hq
  have HQ := Lib.hid hq
  clear hq
  have hn := str_nil t
  cases b <;>
  · go_enter Try.func30, Try.ntmps30
    go_wp2_with (go_at_call 53; refine zero_any.mono ?_; rintro e' w' ⟨rfl, rfl⟩)
    all_goals go_ret
    all_goals refine ⟨ret_bool ?_, (by first | exact ext_alloc _ _ | exact ext_store (ext_alloc _ _) (Nat.le_refl _) _)⟩
    all_goals rw [← HQ.out]
    all_goals simp_all
set_option maxRecDepth 100000 in
set_option maxHeartbeats 1000000 in
theorem dvalid_3 : Calls Try.prog 30 #[(Vl.mk 3 b i r e m t).d] w fun e' w' => e' = .returned (.bool (validV (Vl.mk 3 b i r e m t))) ∧ Ext w w' := by
  have hsf := run_store_float Try.prog
  have hsc := run_store_complex Try.prog
  obtain ⟨q, hq⟩ : ∃ q, validV (Vl.mk 3 b i r e m t) = q := ⟨_, rfl⟩
  rw [hq]
  unfold validV at hq
  simp only at hq
  have HQ := Lib.hid hq
  clear hq
  have hn := str_nil t
  cases b <;>
  · go_enter Try.func30, Try.ntmps30
    go_wp2_with (go_at_call 53; refine zero_any.mono ?_; rintro e' w' ⟨rfl, rfl⟩)
    all_goals go_ret
    all_goals refine ⟨ret_bool ?_, (by first | exact ext_alloc _ _ | exact ext_store (ext_alloc _ _) (Nat.le_refl _) _)⟩
    all_goals rw [← HQ.out]
    all_goals simp_all
set_option maxRecDepth 100000 in
set_option maxHeartbeats 1000000 in
theorem dvalid_4 : Calls Try.prog 30 #[(Vl.mk 4 b i r e m t).d] w fun e' w' => e' = .returned (.bool (validV (Vl.mk 4 b i r e m t))) ∧ Ext w w' := by
  have hsf := run_store_float Try.prog
  have hsc := run_store_complex Try.prog
  obtain ⟨q, hq⟩ : ∃ q, validV (Vl.mk 4 b i r e m t) = q := ⟨_, rfl⟩
  rw [hq]
  unfold validV at hq
  simp only at hq
  have HQ := Lib.hid hq
  clear hq
  have hn := str_nil t
  cases b <;>
  · go_enter Try.func30, Try.ntmps30
    go_wp2_with (go_at_call 53; refine zero_any.mono ?_; rintro e' w' ⟨rfl, rfl⟩)
    all_goals go_ret
    all_goals refine ⟨ret_bool ?_, (by first | exact ext_alloc _ _ | exact ext_store (ext_alloc _ _) (Nat.le_refl _) _)⟩
    all_goals rw [← HQ.out]
    all_goals simp_all
set_option maxRecDepth 100000 in
set_option maxHeartbeats 1000000 in
theorem dvalid_5 : Calls Try.prog 30 #[(Vl.mk 5 b i r e m t).d] w fun e' w' => e' = .returned (.bool (validV (Vl.mk 5 b i r e m t))) ∧ Ext w w' := by
  have hsf := run_store_float Try.prog
  have hsc := run_store_complex Try.prog
  obtain ⟨q, hq⟩ : ∃ q, validV (Vl.mk 5 b i r e m t) = q := ⟨_, rfl⟩
  rw [hq]
  unfold validV at hq
  simp only at hq
  have HQ := Lib.hid hq
  clear hq
  have hn := str_nil t
  cases b <;>
  · go_enter Try.func30, Try.ntmps30
    go_wp2_with (go_at_call 53; refine zero_any.mono ?_; rintro e' w' ⟨rfl, rfl⟩)
    all_goals go_ret
    all_goals refine ⟨ret_bool ?_, (by first | exact ext_alloc _ _ | exact ext_store (ext_alloc _ _) (Nat.le_refl _) _)⟩
    all_goals rw [← HQ.out]
    all_goals simp_all
set_option maxRecDepth 100000 in
set_option maxHeartbeats 1000000 in
theorem dvalid_6 (h0 : ¬ k = 0) (h1 : ¬ k = 1) (h2 : ¬ k = 2) (h3 : ¬ k = 3) (h4 : ¬ k = 4) (h5 : ¬ k = 5) : Calls Try.prog 30 #[(Vl.mk k b i r e m t).d] w fun e' w' => e' = .returned (.bool (validV (Vl.mk k b i r e m t))) ∧ Ext w w' := by
  have hsf := run_store_float Try.prog
  have hsc := run_store_complex Try.prog
  obtain ⟨q, hq⟩ : ∃ q, validV (Vl.mk k b i r e m t) = q := ⟨_, rfl⟩
  rw [hq]
  unfold validV at hq
  simp only at hq
  have HQ := Lib.hid hq
  clear hq
  rcases Int.lt_or_le k 0 with hk | hk
  · have hk2 : k < 0 := hk
    go_enter Try.func30, Try.ntmps30
    go_wp2
    go_ret
    refine ⟨ret_bool ?_, ext_alloc _ _⟩
    rw [← HQ.out, decide_eq_false (by omega)]
    rfl
  · have hk2 : 5 < k := by omega
    go_enter Try.func30, Try.ntmps30
    go_wp2
    go_ret
    refine ⟨ret_bool ?_, ext_alloc _ _⟩
    rw [← HQ.out, decide_eq_false (show ¬ k ≤ 5 by omega)]
    simp
theorem dvalid_any {v : Vl} : Calls Try.prog 30 #[v.d] w fun e' w' => e' = .returned (.bool (validV v)) ∧ Ext w w' := by
  obtain ⟨k, b, i, r, e, m, t⟩ := v
  by_cases h0 : k = 0
  · subst h0; exact dvalid_0
  by_cases h1 : k = 1
  · subst h1; exact dvalid_1
  by_cases h2 : k = 2
  · subst h2; exact dvalid_2
  by_cases h3 : k = 3
  · subst h3; exact dvalid_3
  by_cases h4 : k = 4
  · subst h4; exact dvalid_4
  by_cases h5 : k = 5
  · subst h5; exact dvalid_5
  exact dvalid_6 h0 h1 h2 h3 h4 h5
end
end Go.Proofs.Ytbjfgnkjmfcokaa
