/- Layer 3: contracts of Same, of the program and of the document. No condition but that a number of 64 bits is below 2^64. -/
import Derived.Test.YtbjfgnkjmfcokaaTvalid
import Derived.Test.YtbjfgnkjmfcokaaTlist
import Derived.Test.YtbjfgnkjmfcokaaTflt
import Derived.Test.YtbjfgnkjmfcokaaTput
import Derived.Test.YtbjfgnkjmfcokaaRg
namespace Go.Proofs.Ytbjfgnkjmfcokaa
open Go.RowKit Go.Proofs
set_option linter.unusedVariables false
theorem upAt_skipS {P : Program} {o : Oper} {a : Act} {G : Value → World → Prop} {w : World} (h : G undef w) : upAt P o a G (.ok .skip w) := ⟨undef, rfl, h⟩
theorem setCell_excS (w : World) (g i : Nat) (v : Value) : Exc (fun q _ => q = g) w (w.setCell ⟨g, i, none⟩ v) :=
  ⟨rfl, rfl, rfl, by simp [World.setCell], fun k o hk hn => (Below.heap_setCell w _ v k (fun e => hn e)).trans hk⟩
theorem sameV_no {v : Vl} (h : validV v = false) : sameV v = Vl.zero := by unfold sameV; rw [h]; rfl
theorem sameV_yes {v : Vl} (h : validV v = true) : sameV v = { v with real := oneN v.real, re := oneN v.re, im := oneN v.im } := by unfold sameV; rw [h]; rfl
set_option maxRecDepth 100000 in
set_option maxHeartbeats 1000000 in
theorem dsame_any {v : Vl} {w : World} (h1 : v.real < 18446744073709551616) (h2 : v.re < 18446744073709551616) (h3 : v.im < 18446744073709551616) : Calls Try.prog 32 #[v.d] w fun e w' => e = .returned (sameV v).d ∧ Ext w w' := by
  have HV := fun W => @dvalid_any W v
  have hno := @sameV_no v
  have hyes := @sameV_yes v
  obtain ⟨s, hs⟩ : ∃ s, sameV v = s := ⟨_, rfl⟩
  rw [hs] at hno hyes ⊢
  clear hs
  generalize validV v = q at *
  obtain ⟨kind, bool, int, real, re, im, text⟩ := v
  simp only at h1 h2 h3 hyes
  have H1 := fun W => @done_any W real h1
  have H2 := fun W => @done_any W re h2
  have H3 := fun W => @done_any W im h3
  generalize oneN real = a at *
  generalize oneN re = b at *
  generalize oneN im = c at *
  go_enter Try.func32, Try.ntmps32
  go_wp2_with fail
  refine calls_cut3 (fun W => Ext w W ∧ W.heap[w.heap.size]? = some (.cells #[.int .i64 kind, .bool bool, .int .i64 int, .int .u64 real, .int .u64 re, .int .u64 im, str text] 51) ∧
    W.heap[w.heap.size + 1]? = some (.cells #[.int .i64 0, .bool false, .int .i64 0, .int .u64 0, .int .u64 0, .int .u64 0, str []] 51)) ⟨(ext_alloc _ _).trans (ext_alloc _ _), alloc_under _ _ _, alloc_two _ _ _⟩ ?_
  rintro W ⟨hE0, hb1, hb2⟩
  refine (HV W).mono ?_
  rintro e w1 ⟨rfl, hE1⟩
  replace hb1 := hE1.blk hb1
  replace hb2 := hE1.blk hb2
  have hE := hE0.trans hE1
  clear hE0 hE1 HV
  cases q with
  | false =>
    obtain rfl := hno rfl
    clear hno hyes H1 H2 H3
    go_wp2_with (refine wpList_store_box rfl 51 _ _ rfl (w.heap.size + 1) _ rfl rfl 51 _ hb2 (by kernel_rfl) rfl (by simp [Value.oneCell']) ?_; intro w2 hb hgr)
    have hE2 := ext_only hE hgr (Nat.le_succ _)
    go_wp2
    exact bodyPost_ret (results_cell_row rfl _ _ _ _ _ _ _ rfl hb Try.underlying51 rfl (by kernel_rfl)) rfl ⟨rfl, hE2⟩
  | true =>
    obtain rfl := hyes rfl
    clear hno hyes
    have q3 := cell_of_row w1 w.heap.size 3 _ _ _ hb1
    have f3 := frozen_of_row w1 w.heap.size 3 _ _ hb1
    simp only [List.getElem?_toArray, List.getElem?_cons_zero, List.getElem?_cons_succ] at q3
    go_wp2_with fail
    refine (H1 _).mono ?_
    rintro e w' ⟨rfl, rfl⟩
    have k1 := heap_setCell_same w1 w.heap.size 3 _ _ (.int .u64 a) hb1
    have l1 := heap_other w1 (j := 3) (.int .u64 a) hb2 (show w.heap.size ≠ w.heap.size + 1 by omega)
    have hE1 := ext_store hE (p := ⟨w.heap.size, 3, none⟩) (Nat.le_refl _) (.int .u64 a)
    have p4 := cell_of_row _ w.heap.size 4 _ _ _ k1
    simp only [List.getElem?_toArray, List.getElem?_cons_zero, List.getElem?_cons_succ, List.setIfInBounds_toArray, List.set_cons_succ, List.set_cons_zero] at p4
    clear H1
    go_wp2_with fail
    refine calls_cut3 (fun W => Ext w W ∧ W.heap[w.heap.size]? = some (.cells #[.int .i64 kind, .bool bool, .int .i64 int, .int .u64 a, .int .u64 re, .int .u64 im, str text] 51) ∧
      W.heap[w.heap.size + 1]? = some (.cells #[.int .i64 0, .bool false, .int .i64 0, .int .u64 0, .int .u64 0, .int .u64 0, str []] 51)) ⟨hE1, k1, l1⟩ ?_
    clear hE1 k1 l1 hE hb1 hb2 q3 f3 p4
    rintro w2 ⟨hE, hb1, hb2⟩
    have q4 := cell_of_row w2 w.heap.size 4 _ _ _ hb1
    have f4 := frozen_of_row w2 w.heap.size 4 _ _ hb1
    simp only [List.getElem?_toArray, List.getElem?_cons_zero, List.getElem?_cons_succ] at q4
    refine (H2 _).mono ?_
    rintro e w' ⟨rfl, rfl⟩
    have k1 := heap_setCell_same w2 w.heap.size 4 _ _ (.int .u64 b) hb1
    have l1 := heap_other w2 (j := 4) (.int .u64 b) hb2 (show w.heap.size ≠ w.heap.size + 1 by omega)
    have hE1 := ext_store hE (p := ⟨w.heap.size, 4, none⟩) (Nat.le_refl _) (.int .u64 b)
    have p5 := cell_of_row _ w.heap.size 5 _ _ _ k1
    simp only [List.getElem?_toArray, List.getElem?_cons_zero, List.getElem?_cons_succ, List.setIfInBounds_toArray, List.set_cons_succ, List.set_cons_zero] at p5
    clear H2
    go_wp2_with fail
    refine calls_cut3 (fun W => Ext w W ∧ W.heap[w.heap.size]? = some (.cells #[.int .i64 kind, .bool bool, .int .i64 int, .int .u64 a, .int .u64 b, .int .u64 im, str text] 51) ∧
      W.heap[w.heap.size + 1]? = some (.cells #[.int .i64 0, .bool false, .int .i64 0, .int .u64 0, .int .u64 0, .int .u64 0, str []] 51)) ⟨hE1, k1, l1⟩ ?_
    clear hE1 k1 l1 hE hb1 hb2 q4 f4 p5
    rintro w3 ⟨hE, hb1, hb2⟩
    have q5 := cell_of_row w3 w.heap.size 5 _ _ _ hb1
    have f5 := frozen_of_row w3 w.heap.size 5 _ _ hb1
    simp only [List.getElem?_toArray, List.getElem?_cons_zero, List.getElem?_cons_succ] at q5
    refine (H3 _).mono ?_
    rintro e w' ⟨rfl, rfl⟩
    have k1 := heap_setCell_same w3 w.heap.size 5 _ _ (.int .u64 c) hb1
    have l1 := heap_other w3 (j := 5) (.int .u64 c) hb2 (show w.heap.size ≠ w.heap.size + 1 by omega)
    have hE1 := ext_store hE (p := ⟨w.heap.size, 5, none⟩) (Nat.le_refl _) (.int .u64 c)
    have c0 := cell_of_row _ w.heap.size 0 _ _ _ k1
    have c1 := cell_of_row _ w.heap.size 1 _ _ _ k1
    have c2 := cell_of_row _ w.heap.size 2 _ _ _ k1
    have c3 := cell_of_row _ w.heap.size 3 _ _ _ k1
    have c4 := cell_of_row _ w.heap.size 4 _ _ _ k1
    have c5 := cell_of_row _ w.heap.size 5 _ _ _ k1
    have c6 := cell_of_row _ w.heap.size 6 _ _ _ k1
    clear H3
    go_wp2_with (refine wpList_store_box rfl 51 _ _ rfl (w.heap.size + 1) _ rfl rfl 51 _ l1 (by kernel_rfl) rfl (by simp [Value.oneCell']) ?_; intro w2 hb hgr)
    have hE2 := ext_only hE1 hgr (Nat.le_succ _)
    go_wp2
    exact bodyPost_ret (results_cell_row rfl _ _ _ _ _ _ _ rfl hb Try.underlying51 rfl (by kernel_rfl)) rfl ⟨rfl, hE2⟩
set_option maxRecDepth 100000 in
set_option maxHeartbeats 1000000 in
theorem tsame_any {v : Vl} {w : World} : Calls Try.prog 36 #[v.p] w fun e w' => e = .returned (sameV v).p ∧ Ext w w' := by
  have hsf := run_store_float Try.prog
  have hsc := run_store_complex Try.prog
  have HV := fun W => @tvalid_any W v
  have hno := @sameV_no v
  have hyes := @sameV_yes v
  obtain ⟨s, hs⟩ : ∃ s, sameV v = s := ⟨_, rfl⟩
  rw [hs] at hno hyes ⊢
  clear hs
  generalize validV v = q at *
  obtain ⟨kind, bool, int, real, re, im, text⟩ := v
  simp only at hyes
  have H1 := fun W => @tone_any W real
  have H2 := fun W => @tone_any W re
  have H3 := fun W => @tone_any W im
  generalize oneN real = a at *
  generalize oneN re = b at *
  generalize oneN im = c at *
  go_enter Try.func36, Try.ntmps36
  go_wp2_with fail
  refine calls_cut3 (fun W => Ext w W ∧ W.heap[w.heap.size]? = some (.cells #[.int .i64 kind, .bool bool, .int .i64 int, .float .f64 real, .complex .f64 re im, str text] 56) ∧
    W.heap[w.heap.size + 1]? = some (.cells #[.int .i64 0, .bool false, .int .i64 0, .float .f64 0, .complex .f64 0 0, str []] 56)) ⟨(ext_alloc _ _).trans (ext_alloc _ _), alloc_under _ _ _, alloc_two _ _ _⟩ ?_
  rintro W ⟨hE0, hb1, hb2⟩
  refine (HV W).mono ?_
  rintro e w1 ⟨rfl, hE1⟩
  replace hb1 := hE1.blk hb1
  replace hb2 := hE1.blk hb2
  have hE := hE0.trans hE1
  clear hE0 hE1 HV
  cases q with
  | false =>
    obtain rfl := hno rfl
    clear hno hyes H1 H2 H3
    go_wp2_with (refine wpList_store_box rfl 56 _ _ rfl (w.heap.size + 1) _ rfl rfl 56 _ hb2 (by kernel_rfl) rfl (by simp [Value.oneCell']) ?_; intro w2 hb hgr)
    have hE2 := ext_only hE hgr (Nat.le_succ _)
    go_wp2
    exact bodyPost_ret (results_cell_row rfl _ _ _ _ _ _ _ rfl hb Try.underlying56 rfl (by kernel_rfl)) rfl ⟨rfl, hE2⟩
  | true =>
    obtain rfl := hyes rfl
    clear hno hyes
    have q3 := cell_of_row w1 w.heap.size 3 _ _ _ hb1
    have f3 := frozen_of_row w1 w.heap.size 3 _ _ hb1
    simp only [List.getElem?_toArray, List.getElem?_cons_zero, List.getElem?_cons_succ] at q3
    go_wp2_with fail
    refine (H1 _).mono ?_
    rintro e w' ⟨rfl, rfl⟩
    have k1 := heap_setCell_same w1 w.heap.size 3 _ _ (.float .f64 a) hb1
    have l1 := heap_other w1 (j := 3) (.float .f64 a) hb2 (show w.heap.size ≠ w.heap.size + 1 by omega)
    have hE1 := ext_store hE (p := ⟨w.heap.size, 3, none⟩) (Nat.le_refl _) (.float .f64 a)
    clear H1
    go_wp2
    refine wp_cut (fun W => Ext w W ∧ W.heap[w.heap.size]? = some (.cells #[.int .i64 kind, .bool bool, .int .i64 int, .float .f64 a, .complex .f64 re im, str text] 56) ∧
      W.heap[w.heap.size + 1]? = some (.cells #[.int .i64 0, .bool false, .int .i64 0, .float .f64 0, .complex .f64 0 0, str []] 56)) ⟨hE1, k1, l1⟩ ?_
    clear hE1 k1 l1 hE hb1 hb2 q3 f3
    rintro w2 ⟨hE, hb1, hb2⟩
    have hsz := (Array.getElem?_eq_some_iff.1 hb2).1
    refine wp_region_rg (Exc fun k _ => k = w.heap.size) (rel_exc _) (fun w' => w'.heap[w.heap.size]? = some (.cells #[.int .i64 kind, .bool bool, .int .i64 int, .float .f64 a, .complex .f64 re im, str text] 56)) [0, 1, 2, 3, 4, 5, 6, 7, 8, 9, 10] (fun i => match i with
      | 3 => some fun _ v _ => v = .float .f64 b
      | 7 => some fun _ v _ => v = .float .f64 c
      | _ => none) (fun i => match i with
      | 10 => some fun V _ w' => w'.heap[w.heap.size]? = some (.cells #[.int .i64 kind, .bool bool, .int .i64 int, .float .f64 a, .complex .f64 b c, str text] 56)
      | _ => none) (fun i => match i with | 1 => true | 5 => true | _ => false) (by kernel_rfl) (by kernel_rfl) (fun _ _ h he => he.blk h) hb1 (fun W N hW hF0 hN => ?_)
    have hEW : Exc (fun k _ => k = w.heap.size) w2 W := Exc.of_ext hW
    have e4 : ∀ w', Ext W w' → w'.cell? ⟨w.heap.size, 4, none⟩ = some (.complex .f64 re im) := fun w' h => cell_of_row _ _ _ _ _ _ ((hW.trans h).blk hb1)
    repeat (first | (apply wpR_one; (case ho => (simp only [List.getElem?_toArray, List.getElem?_cons_succ, List.getElem?_cons_zero]; try exact rfl)); (case hw => rfl); (case hl => rfl); (case hsp => rfl); (case he => rfl); (case hv => (intro w' hw'; (try (have hw2 := Ext.trans hEW hw')); (try (have hw3 := Exc.trans hEW hw')); (try (have hw4 := Exk.trans hEW hw')); (try (have hw5 := Mrk.trans hEW hw')); go_simp; exact rfl)); (case hw0 => (first | exact Below.refl _ _ | exact Exc.of_ext (Below.refl _ _) | exact Exk.of_ext (Below.refl _ _) | exact Mrk.of_ext (Below.refl _ _))); simp only [Act.put, List.setIfInBounds_toArray, List.set_cons_succ, List.set_cons_zero]) | (apply wpR_early; (case ho => (simp only [List.getElem?_toArray, List.getElem?_cons_succ, List.getElem?_cons_zero]; try exact rfl)); (case hw => rfl); (case hl => rfl); (case hsp => rfl); (case he => rfl); (case hv => (intro w' hw'; (try have hw2 := Ext.trans hEW hw'); go_simp; exact rfl)); simp only [Act.put, List.setIfInBounds_toArray, List.set_cons_succ, List.set_cons_zero]) | (apply wpR_pass; (case ho => (simp only [List.getElem?_toArray, List.getElem?_cons_succ, List.getElem?_cons_zero]; try exact rfl)); (case hw => rfl); (case hl => rfl); simp only [Act.put, List.setIfInBounds_toArray, List.set_cons_succ, List.set_cons_zero]))
    refine wpR_new (by ((simp only [List.getElem?_toArray, List.getElem?_cons_succ, List.getElem?_cons_zero]; try exact rfl))) _ rfl rfl rfl (fun V v => Lasts.pure) (fun V V' h => rfl) (fun w' hw' hK => ?_) (fun z hz => ?_)
    · unfold opAt; go_simp; refine upAt_enter ?_
      refine (H2 _).mono ?_
      rintro e w2 ⟨rfl, rfl⟩
      exact ⟨_, rfl, Below.refl _ _, rfl⟩
    obtain ⟨_, _, _, rfl⟩ := hz
    simp only [Act.put, List.setIfInBounds_toArray, List.set_cons_succ, List.set_cons_zero]
    repeat (first | (apply wpR_one; (case ho => (simp only [List.getElem?_toArray, List.getElem?_cons_succ, List.getElem?_cons_zero]; try exact rfl)); (case hw => rfl); (case hl => rfl); (case hsp => rfl); (case he => rfl); (case hv => (intro w' hw'; (try (have hw2 := Ext.trans hEW hw')); (try (have hw3 := Exc.trans hEW hw')); (try (have hw4 := Exk.trans hEW hw')); (try (have hw5 := Mrk.trans hEW hw')); go_simp; exact rfl)); (case hw0 => (first | exact Below.refl _ _ | exact Exc.of_ext (Below.refl _ _) | exact Exk.of_ext (Below.refl _ _) | exact Mrk.of_ext (Below.refl _ _))); simp only [Act.put, List.setIfInBounds_toArray, List.set_cons_succ, List.set_cons_zero]) | (apply wpR_early; (case ho => (simp only [List.getElem?_toArray, List.getElem?_cons_succ, List.getElem?_cons_zero]; try exact rfl)); (case hw => rfl); (case hl => rfl); (case hsp => rfl); (case he => rfl); (case hv => (intro w' hw'; (try have hw2 := Ext.trans hEW hw'); go_simp; exact rfl)); simp only [Act.put, List.setIfInBounds_toArray, List.set_cons_succ, List.set_cons_zero]) | (apply wpR_pass; (case ho => (simp only [List.getElem?_toArray, List.getElem?_cons_succ, List.getElem?_cons_zero]; try exact rfl)); (case hw => rfl); (case hl => rfl); simp only [Act.put, List.setIfInBounds_toArray, List.set_cons_succ, List.set_cons_zero]))
    refine wpR_new (by ((simp only [List.getElem?_toArray, List.getElem?_cons_succ, List.getElem?_cons_zero]; try exact rfl))) _ rfl rfl rfl (fun V v => Lasts.pure) (fun V V' h => rfl) (fun w' hw' hK => ?_) (fun z hz => ?_)
    · unfold opAt; go_simp; refine upAt_enter ?_
      refine (H3 _).mono ?_
      rintro e w2 ⟨rfl, rfl⟩
      exact ⟨_, rfl, Below.refl _ _, rfl⟩
    obtain ⟨_, _, _, rfl⟩ := hz
    simp only [Act.put, List.setIfInBounds_toArray, List.set_cons_succ, List.set_cons_zero]
    repeat (first | (apply wpR_one; (case ho => (simp only [List.getElem?_toArray, List.getElem?_cons_succ, List.getElem?_cons_zero]; try exact rfl)); (case hw => rfl); (case hl => rfl); (case hsp => rfl); (case he => rfl); (case hv => (intro w' hw'; (try (have hw2 := Ext.trans hEW hw')); (try (have hw3 := Exc.trans hEW hw')); (try (have hw4 := Exk.trans hEW hw')); (try (have hw5 := Mrk.trans hEW hw')); go_simp; exact rfl)); (case hw0 => (first | exact Below.refl _ _ | exact Exc.of_ext (Below.refl _ _) | exact Exk.of_ext (Below.refl _ _) | exact Mrk.of_ext (Below.refl _ _))); simp only [Act.put, List.setIfInBounds_toArray, List.set_cons_succ, List.set_cons_zero]) | (apply wpR_early; (case ho => (simp only [List.getElem?_toArray, List.getElem?_cons_succ, List.getElem?_cons_zero]; try exact rfl)); (case hw => rfl); (case hl => rfl); (case hsp => rfl); (case he => rfl); (case hv => (intro w' hw'; (try have hw2 := Ext.trans hEW hw'); go_simp; exact rfl)); simp only [Act.put, List.setIfInBounds_toArray, List.set_cons_succ, List.set_cons_zero]) | (apply wpR_pass; (case ho => (simp only [List.getElem?_toArray, List.getElem?_cons_succ, List.getElem?_cons_zero]; try exact rfl)); (case hw => rfl); (case hl => rfl); simp only [Act.put, List.setIfInBounds_toArray, List.set_cons_succ, List.set_cons_zero]))
    refine wpR_late (by ((simp only [List.getElem?_toArray, List.getElem?_cons_succ, List.getElem?_cons_zero]; try exact rfl))) _ rfl rfl (fun V v => fun _ _ h he => he.blk h) (fun V V' h => rfl) (fun w' hw' hK hF => ?_) (fun v hv => ?_)
    · have hF2 : w'.heap[w.heap.size]? = some (.cells #[.int .i64 kind, .bool bool, .int .i64 int, .float .f64 a, .complex .f64 re im, str text] 56) := hF
      have c4 := cell_of_row w' w.heap.size 4 _ _ _ hF2
      have f4 := frozen_of_row w' w.heap.size 4 _ _ hF2
      have hb := heap_setCell_same w' w.heap.size 4 _ _ (.complex .f64 b c) hF2
      clear hF hF2 e4
      unfold opAt
      go_simp
      exact upAt_skipS ⟨setCell_excS _ _ _ _, hb⟩
    clear hv
    simp only [Act.put, List.setIfInBounds_toArray, List.set_cons_succ, List.set_cons_zero]
    apply wpR_nil
    apply hN
    intro w' hE' hK hF
    have k1 : w'.heap[w.heap.size]? = some (.cells #[.int .i64 kind, .bool bool, .int .i64 int, .float .f64 a, .complex .f64 b c, str text] 56) := hF
    have l1 := (hEW.trans hE').blk hb2 (by omega)
    have hE1 := (hEW.trans hE').to_ext hE (fun k _ hk => by omega)
    clear hK hN hF e4 H2 H3 hb1 hb2 hF0
    have c0 := cell_of_row _ w.heap.size 0 _ _ _ k1
    have c1 := cell_of_row _ w.heap.size 1 _ _ _ k1
    have c2 := cell_of_row _ w.heap.size 2 _ _ _ k1
    have c3 := cell_of_row _ w.heap.size 3 _ _ _ k1
    have c4 := cell_of_row _ w.heap.size 4 _ _ _ k1
    have c5 := cell_of_row _ w.heap.size 5 _ _ _ k1
    go_wp2_with (refine wpList_store_box rfl 56 _ _ rfl (w.heap.size + 1) _ rfl rfl 56 _ l1 (by kernel_rfl) rfl (by simp [Value.oneCell']) ?_; intro w2 hb hgr)
    have hE2 := ext_only hE1 hgr (Nat.le_succ _)
    go_wp2
    exact bodyPost_ret (results_cell_row rfl _ _ _ _ _ _ _ rfl hb Try.underlying56 rfl (by kernel_rfl)) rfl ⟨rfl, hE2⟩
end Go.Proofs.Ytbjfgnkjmfcokaa
