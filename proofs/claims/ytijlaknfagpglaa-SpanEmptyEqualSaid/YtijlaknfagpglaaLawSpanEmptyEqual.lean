/- The law SpanEmptyEqual: Empty and Equal are those of the reference. No condition. -/
import Derived.Test.YtijlaknfagpglaaRows
import Derived.Test.YtijlaknfagpglaaArgs
import Derived.Test.YtijlaknfagpglaaArgsr
import Derived.Test.YtijlaknfagpglaaSpanj
import Derived.WalkKit
import Derived.ProofKit
import Derived.OpenShut
import Derived.ChangeOld
import Derived.SizedLaws
namespace Go.Proofs.Ytijlaknfagpglaa.spanEmptyEqual
open Go.ChangeShapes Go.WideShapes Go.ChangeAt Go.RowKit Go.Proofs
set_option linter.unusedVariables false
/-! ### The walk -/
theorem equal_self (r : Rg) : equalB r r = true := by simp [equalB]
set_option maxRecDepth 8000 in
set_option maxHeartbeats 4000000 in
theorem walk {aA aB bA bB : Option Addr} {ac ad bc bd : Nat} {a ah b bh : List UInt8} {ao bo : Bool} {w : World} (ha : Sl w aA ac a) (hah : Sl w aB ad ah) (hb : Sl w bA bc b) (hbh : Sl w bB bd bh) :
    Calls Try.prog 8 #[.agg #[.slice aA a.length ac, .slice aB ah.length ad, .bool ao], .agg #[.slice bA b.length bc, .slice bB bh.length bd, .bool bo]] w fun e w' => e = .returned (.bool true) ∧ Ext w w' := by
  have hq := Lib.hid (equal_self ⟨a, ah, ao⟩)
  go_enter Try.func8, Try.ntmps8
  go_wp2
  refine wp_cut (fun W => Ext w W ∧ W.heap[w.heap.size]? = some (.cells #[.slice aA a.length ac, .slice aB ah.length ad, .bool ao] 32) ∧ W.heap[w.heap.size + 1]? = some (.cells #[.slice bA b.length bc, .slice bB bh.length bd, .bool bo] 32)) ⟨(ext_alloc _ _).trans (ext_alloc _ _), heap_alloc2_old _ _ _, heap_alloc2_new _ _ _⟩ ?_
  rintro w1 ⟨hE, hb1, hb2⟩
  obtain ⟨s, hs⟩ : ∃ s, emptyB ⟨a, ah, ao⟩ = s := ⟨_, rfl⟩
  obtain ⟨t, ht⟩ : ∃ t, equalB ⟨a, ah, ao⟩ ⟨b, bh, bo⟩ = t := ⟨_, rfl⟩
  have HS := Lib.hid hs
  have HT := Lib.hid ht
  clear hs ht
  refine wp_region_mild 21 (fun i => match i with
    | 0 => some fun _ v w' => v = .bool true
    | 3 => some fun _ v w' => v = .bool s
    | 5 => some fun _ v w' => v = .bool s
    | 11 => some fun _ v w' => v = .bool t
    | 14 => some fun _ v w' => v = .bool t
    | 20 => some fun _ v w' => v = .bool true
    | _ => none) (by kernel_rfl) (by kernel_rfl) (fun W N hW hN => ?_)
  have hE1 := hE.trans hW
  have ea0 : ∀ w', Ext W w' → w'.cell? ⟨w.heap.size, 0, none⟩ = some (.slice aA a.length ac) := fun w' h => cell_of_row _ _ _ _ _ _ ((hW.trans h).blk hb1)
  have ea1 : ∀ w', Ext W w' → w'.cell? ⟨w.heap.size, 1, none⟩ = some (.slice aB ah.length ad) := fun w' h => cell_of_row _ _ _ _ _ _ ((hW.trans h).blk hb1)
  have ea2 : ∀ w', Ext W w' → w'.cell? ⟨w.heap.size, 2, none⟩ = some (.bool ao) := fun w' h => cell_of_row _ _ _ _ _ _ ((hW.trans h).blk hb1)
  have eb0 : ∀ w', Ext W w' → w'.cell? ⟨w.heap.size + 1, 0, none⟩ = some (.slice bA b.length bc) := fun w' h => cell_of_row _ _ _ _ _ _ ((hW.trans h).blk hb2)
  have eb1 : ∀ w', Ext W w' → w'.cell? ⟨w.heap.size + 1, 1, none⟩ = some (.slice bB bh.length bd) := fun w' h => cell_of_row _ _ _ _ _ _ ((hW.trans h).blk hb2)
  have eb2 : ∀ w', Ext W w' → w'.cell? ⟨w.heap.size + 1, 2, none⟩ = some (.bool bo) := fun w' h => cell_of_row _ _ _ _ _ _ ((hW.trans h).blk hb2)
  simp only [List.take_succ_cons, List.take_zero]
  refine wpM_new _ rfl rfl (fun V v => Stable.pure) (fun V V' h => rfl) (fun w' hw' hK => ?_) (fun v hv => ?_)
  · unfold mildAt; go_simp; rw [mildUpon_enter]
    refine ⟨Below.refl _ _, (fixed_any).mono ?_⟩
    rintro e w2 ⟨rfl, hE2⟩
    exact ⟨_, rfl, hE2, rfl⟩
  obtain ⟨_, _, _, rfl⟩ := hv
  simp only [Act.put, List.setIfInBounds_toArray, List.set_cons_succ, List.set_cons_zero]
  repeat (first | (apply wpM_one; (case hg => rfl); (case hsp => rfl); (case hv => (intro w' hw'; go_simp; exact rfl)); simp only [Act.put, List.setIfInBounds_toArray, List.set_cons_succ, List.set_cons_zero]; try simp only [wrap_zero]) | (apply wpM_oneG; (case hw => rfl); (case hsp => rfl); (case hv => (intro w' hw'; go_simp; exact rfl)); simp only [Act.put, List.setIfInBounds_toArray, List.set_cons_succ, List.set_cons_zero]; try simp only [wrap_zero]) | (apply wpM_pass; (case hw => rfl); simp only [Act.put, List.setIfInBounds_toArray, List.set_cons_succ, List.set_cons_zero]; try simp only [wrap_zero]))
  refine wpM_newG _ rfl rfl (fun V v => Stable.pure) (fun V V' h => rfl) (fun w' hw' hK => ?_) (fun v hv => ?_)
  · unfold mildAt; go_simp; rw [mildUpon_enter]
    refine ⟨Below.refl _ _, (empty_any (ha.ext (hE1.trans hw')) (hah.ext (hE1.trans hw'))).mono ?_⟩
    rintro e w2 ⟨rfl, hE2⟩
    exact ⟨_, rfl, hE2, by rw [HS.out]⟩
  obtain ⟨_, _, _, rfl⟩ := hv
  simp only [Act.put, List.setIfInBounds_toArray, List.set_cons_succ, List.set_cons_zero]
  repeat (first | (apply wpM_one; (case hg => rfl); (case hsp => rfl); (case hv => (intro w' hw'; go_simp; exact rfl)); simp only [Act.put, List.setIfInBounds_toArray, List.set_cons_succ, List.set_cons_zero]; try simp only [wrap_zero]) | (apply wpM_oneG; (case hw => rfl); (case hsp => rfl); (case hv => (intro w' hw'; go_simp; exact rfl)); simp only [Act.put, List.setIfInBounds_toArray, List.set_cons_succ, List.set_cons_zero]; try simp only [wrap_zero]) | (apply wpM_pass; (case hw => rfl); simp only [Act.put, List.setIfInBounds_toArray, List.set_cons_succ, List.set_cons_zero]; try simp only [wrap_zero]))
  refine wpM_newG _ rfl rfl (fun V v => Stable.pure) (fun V V' h => rfl) (fun w' hw' hK => ?_) (fun v hv => ?_)
  · unfold mildAt; go_simp; rw [mildUpon_enter]
    refine ⟨Below.refl _ _, (rempty_any (ha.ext (hE1.trans hw')) (hah.ext (hE1.trans hw'))).mono ?_⟩
    rintro e w2 ⟨rfl, hE2⟩
    exact ⟨_, rfl, hE2, by rw [HS.out]⟩
  obtain ⟨_, _, _, rfl⟩ := hv
  simp only [Act.put, List.setIfInBounds_toArray, List.set_cons_succ, List.set_cons_zero]
  repeat (first | (apply wpM_one; (case hg => rfl); (case hsp => rfl); (case hv => (intro w' hw'; go_simp; exact rfl)); simp only [Act.put, List.setIfInBounds_toArray, List.set_cons_succ, List.set_cons_zero]; try simp only [wrap_zero]) | (apply wpM_oneG; (case hw => rfl); (case hsp => rfl); (case hv => (intro w' hw'; go_simp; exact rfl)); simp only [Act.put, List.setIfInBounds_toArray, List.set_cons_succ, List.set_cons_zero]; try simp only [wrap_zero]) | (apply wpM_pass; (case hw => rfl); simp only [Act.put, List.setIfInBounds_toArray, List.set_cons_succ, List.set_cons_zero]; try simp only [wrap_zero]))
  refine wpM_newG _ rfl rfl (fun V v => Stable.pure) (fun V V' h => rfl) (fun w' hw' hK => ?_) (fun v hv => ?_)
  · unfold mildAt; go_simp; rw [mildUpon_enter]
    refine ⟨Below.refl _ _, (equal_any (ha.ext (hE1.trans hw')) (hah.ext (hE1.trans hw')) (hb.ext (hE1.trans hw')) (hbh.ext (hE1.trans hw'))).mono ?_⟩
    rintro e w2 ⟨rfl, hE2⟩
    exact ⟨_, rfl, hE2, by rw [HT.out]⟩
  obtain ⟨_, _, _, rfl⟩ := hv
  simp only [Act.put, List.setIfInBounds_toArray, List.set_cons_succ, List.set_cons_zero]
  repeat (first | (apply wpM_one; (case hg => rfl); (case hsp => rfl); (case hv => (intro w' hw'; go_simp; exact rfl)); simp only [Act.put, List.setIfInBounds_toArray, List.set_cons_succ, List.set_cons_zero]; try simp only [wrap_zero]) | (apply wpM_oneG; (case hw => rfl); (case hsp => rfl); (case hv => (intro w' hw'; go_simp; exact rfl)); simp only [Act.put, List.setIfInBounds_toArray, List.set_cons_succ, List.set_cons_zero]; try simp only [wrap_zero]) | (apply wpM_pass; (case hw => rfl); simp only [Act.put, List.setIfInBounds_toArray, List.set_cons_succ, List.set_cons_zero]; try simp only [wrap_zero]))
  refine wpM_newG _ rfl rfl (fun V v => Stable.pure) (fun V V' h => rfl) (fun w' hw' hK => ?_) (fun v hv => ?_)
  · unfold mildAt; go_simp; rw [mildUpon_enter]
    refine ⟨Below.refl _ _, (requal_any (ha.ext (hE1.trans hw')) (hah.ext (hE1.trans hw')) (hb.ext (hE1.trans hw')) (hbh.ext (hE1.trans hw'))).mono ?_⟩
    rintro e w2 ⟨rfl, hE2⟩
    exact ⟨_, rfl, hE2, by rw [HT.out]⟩
  obtain ⟨_, _, _, rfl⟩ := hv
  simp only [Act.put, List.setIfInBounds_toArray, List.set_cons_succ, List.set_cons_zero]
  repeat (first | (apply wpM_one; (case hg => rfl); (case hsp => rfl); (case hv => (intro w' hw'; go_simp; exact rfl)); simp only [Act.put, List.setIfInBounds_toArray, List.set_cons_succ, List.set_cons_zero]; try simp only [wrap_zero]) | (apply wpM_oneG; (case hw => rfl); (case hsp => rfl); (case hv => (intro w' hw'; go_simp; exact rfl)); simp only [Act.put, List.setIfInBounds_toArray, List.set_cons_succ, List.set_cons_zero]; try simp only [wrap_zero]) | (apply wpM_pass; (case hw => rfl); simp only [Act.put, List.setIfInBounds_toArray, List.set_cons_succ, List.set_cons_zero]; try simp only [wrap_zero]))
  refine wpM_newG _ rfl rfl (fun V v => Stable.pure) (fun V V' h => rfl) (fun w' hw' hK => ?_) (fun v hv => ?_)
  · unfold mildAt; go_simp; rw [mildUpon_enter]
    refine ⟨Below.refl _ _, (equal_any (ha.ext (hE1.trans hw')) (hah.ext (hE1.trans hw')) (ha.ext (hE1.trans hw')) (hah.ext (hE1.trans hw'))).mono ?_⟩
    rintro e w2 ⟨rfl, hE2⟩
    exact ⟨_, rfl, hE2, by rw [hq.out]⟩
  obtain ⟨_, _, _, rfl⟩ := hv
  simp only [Act.put, List.setIfInBounds_toArray, List.set_cons_succ, List.set_cons_zero]
  repeat (first | (apply wpM_one; (case hg => rfl); (case hsp => rfl); (case hv => (intro w' hw'; go_simp; exact rfl)); simp only [Act.put, List.setIfInBounds_toArray, List.set_cons_succ, List.set_cons_zero]; try simp only [wrap_zero]) | (apply wpM_oneG; (case hw => rfl); (case hsp => rfl); (case hv => (intro w' hw'; go_simp; exact rfl)); simp only [Act.put, List.setIfInBounds_toArray, List.set_cons_succ, List.set_cons_zero]; try simp only [wrap_zero]) | (apply wpM_pass; (case hw => rfl); simp only [Act.put, List.setIfInBounds_toArray, List.set_cons_succ, List.set_cons_zero]; try simp only [wrap_zero]))
  apply wpM_nil
  apply hN
  intro w' hE' hK
  clear hK hN
  go_wp2
  go_ret
  exact ⟨rfl, hE1.trans hE'⟩
set_option maxRecDepth 100000 in
theorem lifted (os : Os) (started : os.Started) (H : Type) (enc : TypeId × Value → H) :
    ReturnsInHanded {} Try.checked os 8 .any (Rows.spanEmptyEqualSpec.pre6 enc Try.prog Try.f8 Rows.spanEmptyEqualRow.domain false) (Rows.spanEmptyEqualSpec.post enc Try.prog Try.f8 false true false false) := by
  refine returnsInHanded_of_change_sized (C := Try.checked) own' started (by kernel_rfl) Try.func8
    (ChangeSpec.witness6 (enc := enc) (C := Try.checked) false ⟨#[], #[.agg #[.slice none 0 0, .slice none 0 0, .bool false], .agg #[.slice none 0 0, .slice none 0 0, .bool false]], []⟩ 8 (by kernel_rfl) (by kernel_rfl) (by kernel_rfl) (by kernel_rfl)) ?_
  intro W base args ds gs before hval0 hW hcnd hsz0 _
  have hval : ∀ (j : Nat) t v, Try.f8.params[j]? = some t → args[j]? = some v → Value.okWide Try.prog W .any base t v := hval0
  have hsz : (DataW.weightsEach Try.prog (Try.f8.params.toList ++ Rows.spanEmptyEqualSpec.plain.varTypes Try.prog) (ds ++ gs)).all (· ≤ reachBytes) = true := hsz0
  have hW' := hW
  obtain ⟨p, q, hA0, hV, rfl, hfz, hnd⟩ := hW
  have hA : DataW.TrodAll enc Try.prog W 0 (fun _ => true) true Try.f8.params.toList args.toList ds p := hA0
  rw [Try.params8] at hA hval hsz
  obtain ⟨v0, vs0, d0, ds0, p0, q0, hargs, rfl, rfl, h0, r0⟩ := trodAll_cons hA
  obtain ⟨v1, vs1, d1, ds1, p1, q1, rfl, rfl, rfl, h1, r1⟩ := trodAll_cons r0
  obtain ⟨rfl, rfl, rfl⟩ := trodAll_nil r1
  obtain rfl : args = #[v0, v1] := by cases args; simp_all
  obtain ⟨rfl, rfl⟩ := trodVars_none hV
  have lt0 : ∀ x ∈ p0, x.block < W.heap.size := by obtain ⟨m, hm⟩ := h0; exact DataW.trod_lt m _ _ _ hm
  obtain ⟨la0, lc0, ha0, hc0, lo0, hi0, op0, rfl, s0, t0⟩ := range_of_trod (hval 0 32 v0 rfl rfl) h0 (fun n hn => List.all_eq_true.1 hsz _ (DataW.weights_mem_each (j := 0) (t := 32) rfl rfl n hn))
  have lt1 : ∀ x ∈ p1, x.block < W.heap.size := by obtain ⟨m, hm⟩ := h1; exact DataW.trod_lt m _ _ _ hm
  obtain ⟨la1, lc1, ha1, hc1, lo1, hi1, op1, rfl, s1, t1⟩ := range_of_trod (hval 1 32 v1 rfl rfl) h1 (fun n hn => List.all_eq_true.1 hsz _ (DataW.weights_mem_each (j := 1) (t := 32) rfl rfl n hn))
  clear hA0 hval0
  refine (walk s0 t0 s1 t1).mono fun e W' ⟨he, bel⟩ => ?_
  subst he
  exact ⟨_, rfl, _, _, _, [], _, [], hW', trodAll_mk1 (shut_bool Try.underlying4 _), (trodAll_cons_mk (Below.trod laidOut' (by kernel_rfl) (of_decide_eq_true (by kernel_rfl)) h0 bel lt0) (trodAll_cons_mk (Below.trod laidOut' (by kernel_rfl) (of_decide_eq_true (by kernel_rfl)) h1 bel lt1) trodAll_mk0)), rfl, bel.frame _, fun h => by cases h⟩
theorem over : Rows.spanEmptyEqualRow.holds Try.pinned (OpenSpec.ofChange Rows.spanEmptyEqualSpec) :=
  OpenClaim.holds_of_wide 8 Try.f8 rfl rfl rfl rfl rfl rfl rfl ⟨rfl, rfl, rfl, rfl, rfl⟩ rfl rfl rfl rfl rfl (by kernel_rfl) Try.func8 (by kernel_rfl)
    (of_decide_eq_true (by kernel_rfl)) (by unfold Func.isWrapper; first | (rw [if_pos (by decide +kernel)]; kernel_rfl) | (rw [if_neg (by decide +kernel)]; exact ⟨rfl, rfl⟩))
    (fun os started H enc _ => lifted os started H enc)
/-- The statement. -/
theorem proved : Rows.SpanEmptyEqualSaid := over
#print axioms proved
end Go.Proofs.Ytijlaknfagpglaa.spanEmptyEqual
