/- Layer 3: the order of two values, as the program and as the document have it. No condition but the bounds of the types. -/
import Derived.Test.YtbjfgnkjmfcokaaTval
import Derived.Test.YtbjfgnkjmfcokaaTstr
import Derived.Test.YtbjfgnkjmfcokaaBlk
namespace Go.Proofs.Ytbjfgnkjmfcokaa
open Go.RowKit Go.Proofs
set_option linter.unusedVariables false
def trI (b : Bool) : Int := if b then 1 else 0
/-- The order of two values. -/
def cmpV (a b : Vl) : Int :=
  if a.kind = b.kind then
    if a.kind = 1 then cmpI (trI a.bool) (trI b.bool)
    else if a.kind = 2 then cmpI a.int b.int
    else if a.kind = 3 then cmpI (rankN a.real) (rankN b.real)
    else if a.kind = 4 then (if cmpI (rankN a.re) (rankN b.re) = 0 then cmpI (rankN a.im) (rankN b.im) else cmpI (rankN a.re) (rankN b.re))
    else if a.kind = 5 then cmpB a.text b.text
    else 0
  else cmpI a.kind b.kind
theorem quiet_left {P : Program} {f : FuncId} {args : Array Value} {w : World} {n : Nat} {v : Value}
    (h : Calls P f args (w.drewN n) fun e w' => e = .returned v ∧ w.drewN n = w') : Calls P f args (w.drewN n) fun e w' => e = .returned v ∧ ∃ m, w' = w.drewN m :=
  h.mono fun _ _ ⟨he, hm⟩ => ⟨he, n, hm.symm⟩
section
variable {k1 k2 i1 i2 : Int} {b1 b2 : Bool} {r1 r2 e1 e2 m1 m2 : Nat} {t1 t2 : List UInt8} {w : World}
theorem compare_ne (h : ¬ k1 = k2) : Calls Try.prog 40 #[(Vl.mk k1 b1 i1 r1 e1 m1 t1).p, (Vl.mk k2 b2 i2 r2 e2 m2 t2).p] w fun e w' => e = .returned (.int .i64 (cmpI k1 k2)) ∧ Ext w w' := by
  go_enter Try.func40, Try.ntmps40
  go_wp2_with (go_at_call 41; refine cmpInt_any.mono ?_; rintro e w' ⟨rfl, rfl⟩)
  go_ret
  exact ⟨rfl, (ext_alloc _ _).trans (ext_alloc _ _)⟩
theorem compare_1 : Calls Try.prog 40 #[(Vl.mk 1 b1 i1 r1 e1 m1 t1).p, (Vl.mk 1 b2 i2 r2 e2 m2 t2).p] w fun e w' => e = .returned (.int .i64 (cmpI (trI b1) (trI b2))) ∧ Ext w w' := by
  cases b1 <;> cases b2 <;>
  · go_enter Try.func40, Try.ntmps40
    go_wp2
    go_quiet (first | (go_at_call 55; exact quiet_left truth_any) | (go_at_call 41; exact quiet_left cmpInt_any))
    go_wp2
    go_ret
    exact ⟨rfl, ((ext_alloc _ _).trans (ext_alloc _ _)).trans (ext_drewN _ _)⟩
theorem compare_2 : Calls Try.prog 40 #[(Vl.mk 2 b1 i1 r1 e1 m1 t1).p, (Vl.mk 2 b2 i2 r2 e2 m2 t2).p] w fun e w' => e = .returned (.int .i64 (cmpI i1 i2)) ∧ Ext w w' := by
  go_enter Try.func40, Try.ntmps40
  go_wp2_with (go_at_call 56; refine cmpLong_any.mono ?_; rintro e w' ⟨rfl, rfl⟩)
  go_ret
  exact ⟨rfl, (ext_alloc _ _).trans (ext_alloc _ _)⟩
theorem compare_3 (h1 : r1 < 18446744073709551616) (h2 : r2 < 18446744073709551616) : Calls Try.prog 40 #[(Vl.mk 3 b1 i1 r1 e1 m1 t1).p, (Vl.mk 3 b2 i2 r2 e2 m2 t2).p] w fun e w' => e = .returned (.int .i64 (cmpI (rankN r1) (rankN r2))) ∧ Ext w w' := by
  go_enter Try.func40, Try.ntmps40
  go_wp2
  go_quiet (first | (go_at_call 58; exact quiet_left (rank_any (by assumption))) | (go_at_call 57; exact quiet_left cmpWord_any))
  go_wp2
  go_ret
  exact ⟨rfl, ((ext_alloc _ _).trans (ext_alloc _ _)).trans (ext_drewN _ _)⟩
theorem compare_5 : Calls Try.prog 40 #[(Vl.mk 5 b1 i1 r1 e1 m1 t1).p, (Vl.mk 5 b2 i2 r2 e2 m2 t2).p] w fun e w' => e = .returned (.int .i64 (cmpB t1 t2)) ∧ Ext w w' := by
  go_enter Try.func40, Try.ntmps40
  go_wp2_with (go_at_call 59; refine scompare_any.mono ?_; rintro e w' ⟨rfl, rfl⟩)
  go_ret
  exact ⟨rfl, (ext_alloc _ _).trans (ext_alloc _ _)⟩
theorem compare_0 (h1 : ¬ k1 = 1) (h2 : ¬ k1 = 2) (h3 : ¬ k1 = 3) (h4 : ¬ k1 = 4) (h5 : ¬ k1 = 5) : Calls Try.prog 40 #[(Vl.mk k1 b1 i1 r1 e1 m1 t1).p, (Vl.mk k1 b2 i2 r2 e2 m2 t2).p] w fun e w' => e = .returned (.int .i64 0) ∧ Ext w w' := by
  go_enter Try.func40, Try.ntmps40
  go_wp2
  go_ret
  exact ⟨rfl, (ext_alloc _ _).trans (ext_alloc _ _)⟩
theorem compare_4n (h1 : e1 < 18446744073709551616) (h2 : e2 < 18446744073709551616) (hc : ¬ cmpI (rankN e1) (rankN e2) = 0) : Calls Try.prog 40 #[(Vl.mk 4 b1 i1 r1 e1 m1 t1).p, (Vl.mk 4 b2 i2 r2 e2 m2 t2).p] w fun e w' => e = .returned (.int .i64 (cmpI (rankN e1) (rankN e2))) ∧ Ext w w' := by
  go_enter Try.func40, Try.ntmps40
  go_wp2
  go_quiet (first | (go_at_call 58; exact quiet_left (rank_any (by assumption))) | (go_at_call 57; exact quiet_left cmpWord_any))
  go_wp2
  go_ret
  exact ⟨rfl, ((ext_alloc _ _).trans (ext_alloc _ _)).trans (ext_drewN _ _)⟩
theorem compare_4 (h1 : e1 < 18446744073709551616) (h2 : e2 < 18446744073709551616) (h3 : m1 < 18446744073709551616) (h4 : m2 < 18446744073709551616) (hc : cmpI (rankN e1) (rankN e2) = 0) : Calls Try.prog 40 #[(Vl.mk 4 b1 i1 r1 e1 m1 t1).p, (Vl.mk 4 b2 i2 r2 e2 m2 t2).p] w fun e w' => e = .returned (.int .i64 (cmpI (rankN m1) (rankN m2))) ∧ Ext w w' := by
  have hsf := run_store_float Try.prog
  go_enter Try.func40, Try.ntmps40
  go_wp2
  go_quiet (first | (go_at_call 58; exact quiet_left (rank_any (by assumption))) | (go_at_call 57; exact quiet_left cmpWord_any))
  go_wp2
  go_region
  go_wp2
  go_quiet (first | (go_at_call 58; exact quiet_left (rank_any (by assumption))) | (go_at_call 57; exact quiet_left cmpWord_any))
  go_wp2
  go_ret
  exact ⟨rfl, (ext_store (ext_store (((ext_alloc _ _).trans (ext_alloc _ _)).trans (ext_drewN _ _)) (Nat.le_refl _) _) (Nat.le_succ _) _).trans (ext_drewN _ _)⟩
theorem values_ne (h : ¬ k1 = k2) : Calls Try.prog 42 #[(Vl.mk k1 b1 i1 r1 e1 m1 t1).d, (Vl.mk k2 b2 i2 r2 e2 m2 t2).d] w fun e w' => e = .returned (.int .i64 (cmpI k1 k2)) ∧ Ext w w' := by
  have hz : ¬ cmpI k1 k2 = 0 := fun e => h (cmpI_eq.1 e)
  go_enter Try.func42, Try.ntmps42
  go_wp2_with (go_at_call 43; refine ints_any.mono ?_; rintro e w' ⟨rfl, rfl⟩)
  go_ret
  exact ⟨rfl, (ext_alloc _ _).trans (ext_alloc _ _)⟩
theorem values_1 : Calls Try.prog 42 #[(Vl.mk 1 b1 i1 r1 e1 m1 t1).d, (Vl.mk 1 b2 i2 r2 e2 m2 t2).d] w fun e w' => e = .returned (.int .i64 (cmpI (trI b1) (trI b2))) ∧ Ext w w' := by
  have hz : cmpI 1 1 = 0 := rfl
  cases b1 <;> cases b2 <;>
  · go_enter Try.func42, Try.ntmps42
    go_wp2_with (first | (go_at_call 43; refine ints_any.mono ?_; rintro e w' ⟨rfl, rfl⟩) | (go_at_call 61; refine bools_any.mono ?_; rintro e w' ⟨rfl, rfl⟩))
    go_ret
    exact ⟨rfl, (ext_alloc _ _).trans (ext_alloc _ _)⟩
theorem values_2 : Calls Try.prog 42 #[(Vl.mk 2 b1 i1 r1 e1 m1 t1).d, (Vl.mk 2 b2 i2 r2 e2 m2 t2).d] w fun e w' => e = .returned (.int .i64 (cmpI i1 i2)) ∧ Ext w w' := by
  have hz : cmpI 2 2 = 0 := rfl
  go_enter Try.func42, Try.ntmps42
  go_wp2_with (go_at_call 43; refine ints_any.mono ?_; rintro e w' ⟨rfl, rfl⟩)
  go_ret
  exact ⟨rfl, (ext_alloc _ _).trans (ext_alloc _ _)⟩
theorem values_3 (h1 : r1 < 18446744073709551616) (h2 : r2 < 18446744073709551616) : Calls Try.prog 42 #[(Vl.mk 3 b1 i1 r1 e1 m1 t1).d, (Vl.mk 3 b2 i2 r2 e2 m2 t2).d] w fun e w' => e = .returned (.int .i64 (cmpI (rankN r1) (rankN r2))) ∧ Ext w w' := by
  have hz : cmpI 3 3 = 0 := rfl
  go_enter Try.func42, Try.ntmps42
  go_wp2_with (first | (go_at_call 43; refine ints_any.mono ?_; rintro e w' ⟨rfl, rfl⟩) | (go_at_call 62; refine (reals_any (by assumption) (by assumption)).mono ?_; rintro e w' ⟨rfl, rfl⟩))
  go_ret
  exact ⟨rfl, (ext_alloc _ _).trans (ext_alloc _ _)⟩
theorem values_4n (h1 : e1 < 18446744073709551616) (h2 : e2 < 18446744073709551616) (hc : ¬ cmpI (rankN e1) (rankN e2) = 0) : Calls Try.prog 42 #[(Vl.mk 4 b1 i1 r1 e1 m1 t1).d, (Vl.mk 4 b2 i2 r2 e2 m2 t2).d] w fun e w' => e = .returned (.int .i64 (cmpI (rankN e1) (rankN e2))) ∧ Ext w w' := by
  have hz : cmpI 4 4 = 0 := rfl
  go_enter Try.func42, Try.ntmps42
  go_wp2_with (first | (go_at_call 43; refine ints_any.mono ?_; rintro e w' ⟨rfl, rfl⟩) | (go_at_call 62; refine (reals_any (by assumption) (by assumption)).mono ?_; rintro e w' ⟨rfl, rfl⟩))
  go_ret
  exact ⟨rfl, (ext_alloc _ _).trans (ext_alloc _ _)⟩
theorem values_4 (h1 : e1 < 18446744073709551616) (h2 : e2 < 18446744073709551616) (h3 : m1 < 18446744073709551616) (h4 : m2 < 18446744073709551616) (hc : cmpI (rankN e1) (rankN e2) = 0) : Calls Try.prog 42 #[(Vl.mk 4 b1 i1 r1 e1 m1 t1).d, (Vl.mk 4 b2 i2 r2 e2 m2 t2).d] w fun e w' => e = .returned (.int .i64 (cmpI (rankN m1) (rankN m2))) ∧ Ext w w' := by
  have hz : cmpI 4 4 = 0 := rfl
  go_enter Try.func42, Try.ntmps42
  go_wp2_with (first | (go_at_call 43; refine ints_any.mono ?_; rintro e w' ⟨rfl, rfl⟩) | (go_at_call 62; refine (reals_any (by assumption) (by assumption)).mono ?_; rintro e w' ⟨rfl, rfl⟩))
  go_ret
  exact ⟨rfl, (ext_alloc _ _).trans (ext_alloc _ _)⟩
theorem values_0 (h1 : ¬ k1 = 1) (h2 : ¬ k1 = 2) (h3 : ¬ k1 = 3) (h4 : ¬ k1 = 4) (h5 : ¬ k1 = 5) : Calls Try.prog 42 #[(Vl.mk k1 b1 i1 r1 e1 m1 t1).d, (Vl.mk k1 b2 i2 r2 e2 m2 t2).d] w fun e w' => e = .returned (.int .i64 0) ∧ Ext w w' := by
  have hz : cmpI k1 k1 = 0 := cmpI_eq.2 rfl
  go_enter Try.func42, Try.ntmps42
  go_wp2_with (go_at_call 43; refine ints_any.mono ?_; rintro e w' ⟨rfl, rfl⟩)
  go_ret
  exact ⟨rfl, (ext_alloc _ _).trans (ext_alloc _ _)⟩
set_option maxHeartbeats 400000 in
set_option maxRecDepth 20000 in
theorem values_5 (hl1 : t1.length ≤ 140737488355328) (hl2 : t2.length ≤ 140737488355328) : Calls Try.prog 42 #[(Vl.mk 5 b1 i1 r1 e1 m1 t1).d, (Vl.mk 5 b2 i2 r2 e2 m2 t2).d] w fun e w' => e = .returned (.int .i64 (cmpB t1 t2)) ∧ Ext w w' := by
  have hz : cmpI 5 5 = 0 := rfl
  go_enter Try.func42, Try.ntmps42
  go_wp2_with (first | (go_at_call 43; refine ints_any.mono ?_; rintro e w' ⟨rfl, rfl⟩) | (refine wpList_bytes_of rfl 9 30 5 (.tmp 55) rfl t1 rfl Try.underlying9 Try.underlying30 Try.underlying5 hl1 ?_; intro A1 c1 w1 s1 hE1; have hc2 : w1.cell? ⟨w.heap.size + 1, 6, none⟩ = some (str t2) := cell_of_row _ _ _ _ _ _ (hE1.blk (g := w.heap.size + 1) (o := .cells #[.int .i64 5, .bool b2, .int .i64 i2, .int .u64 r2, .int .u64 e2, .int .u64 m2, str t2] 51) (by rw [← World.size_alloc]; exact heap_alloc_new _ _))) | (refine wpList_bytes_of rfl 9 30 5 (.tmp 58) rfl t2 rfl Try.underlying9 Try.underlying30 Try.underlying5 hl2 ?_; intro A2 c2 w2 s2 hE2) | (go_at_call 38; refine (compare_any (s1.ext hE2) s2).mono ?_; rintro e w3 ⟨rfl, hE3⟩))
  go_ret
  exact ⟨rfl, ((((ext_alloc _ _).trans (ext_alloc _ _)).trans hE1).trans hE2).trans hE3⟩
end
theorem tcompare_any {a b : Vl} {w : World} (ha : a.Ok) (hb : b.Ok) : Calls Try.prog 40 #[a.p, b.p] w fun e w' => e = .returned (.int .i64 (cmpV a b)) ∧ Ext w w' := by
  obtain ⟨k1, b1, i1, r1, e1, m1, t1⟩ := a
  obtain ⟨k2, b2, i2, r2, e2, m2, t2⟩ := b
  unfold cmpV
  simp only
  by_cases h : k1 = k2
  · subst h
    rw [if_pos rfl]
    by_cases g1 : k1 = 1
    · subst g1; exact compare_1
    rw [if_neg g1]
    by_cases g2 : k1 = 2
    · subst g2; exact compare_2
    rw [if_neg g2]
    by_cases g3 : k1 = 3
    · subst g3; exact compare_3 ha.real hb.real
    rw [if_neg g3]
    by_cases g4 : k1 = 4
    · subst g4
      rw [if_pos rfl]
      split
      · exact compare_4 ha.re hb.re ha.im hb.im ‹_›
      · exact compare_4n ha.re hb.re ‹_›
    rw [if_neg g4]
    by_cases g5 : k1 = 5
    · subst g5; exact compare_5
    rw [if_neg g5]
    exact compare_0 g1 g2 g3 g4 g5
  · rw [if_neg h]; exact compare_ne h
theorem dvalues_any {a b : Vl} {w : World} (ha : a.Ok) (hb : b.Ok) : Calls Try.prog 42 #[a.d, b.d] w fun e w' => e = .returned (.int .i64 (cmpV a b)) ∧ Ext w w' := by
  obtain ⟨k1, b1, i1, r1, e1, m1, t1⟩ := a
  obtain ⟨k2, b2, i2, r2, e2, m2, t2⟩ := b
  unfold cmpV
  simp only
  by_cases h : k1 = k2
  · subst h
    rw [if_pos rfl]
    by_cases g1 : k1 = 1
    · subst g1; exact values_1
    rw [if_neg g1]
    by_cases g2 : k1 = 2
    · subst g2; exact values_2
    rw [if_neg g2]
    by_cases g3 : k1 = 3
    · subst g3; exact values_3 ha.real hb.real
    rw [if_neg g3]
    by_cases g4 : k1 = 4
    · subst g4
      rw [if_pos rfl]
      split
      · exact values_4 ha.re hb.re ha.im hb.im ‹_›
      · exact values_4n ha.re hb.re ‹_›
    rw [if_neg g4]
    by_cases g5 : k1 = 5
    · subst g5; exact values_5 ha.text hb.text
    rw [if_neg g5]
    exact values_0 g1 g2 g3 g4 g5
  · rw [if_neg h]; exact values_ne h
end Go.Proofs.Ytbjfgnkjmfcokaa
