/- The walk of TupleTells. No condition but that what comes in lies in memory. -/
import Derived.Test.YtbjfgnkjmfcokaaTworks
import Derived.Test.YtbjfgnkjmfcokaaTsame
namespace Go.Proofs.Ytbjfgnkjmfcokaa
set_option linter.unusedVariables false
open Go.RowKit Go.Proofs
set_option maxRecDepth 100000 in
set_option maxHeartbeats 1000000 in
theorem tells_any {A : Option Addr} {c : Nat} {x : List Vl} {w : World} (hx : DL w A c x) (gx : x.length + 2 ≤ 2199023255552) :
    Calls Try.prog 11 #[.slice A x.length c] w fun e w' => e = .returned (.bool true) ∧ Ext w w' := by
  have hl := hx.len
  have hsf := run_store_float Try.prog
  have hsc := run_store_complex Try.prog
  go_enter Try.func11, Try.ntmps11
  go_wp2
  go_loopw [3] (fun i wr => ∃ k : Nat, k ≤ x.length ∧ i = .int .i64 k ∧ Ext w wr) (fun i _ => x.length - (intOf i).toNat)
  case atStart => exact ⟨0, Nat.zero_le _, rfl, Below.refl _ _⟩
  case round =>
    obtain ⟨k, hk, rfl, hE⟩ := hrel
    by_cases hlt : k < x.length
    · obtain ⟨v, hv⟩ : ∃ v, x[k]? = some v := ⟨_, List.getElem?_eq_getElem hlt⟩
      have hok := hx.ok v (List.mem_of_getElem? hv)
      obtain ⟨b, off, rfl, hc⟩ := (hx.ext hE).dAt hv
      obtain ⟨c0, c1, c2, c3, c4, c5, c6⟩ := hc wr (Below.refl _ _)
      have y0 := fun W (h : Ext wr W) => (hc W h).1
      have y1 := fun W (h : Ext wr W) => (hc W h).2.1
      have y2 := fun W (h : Ext wr W) => (hc W h).2.2.1
      have y3 := fun W (h : Ext wr W) => (hc W h).2.2.2.1
      have y4 := fun W (h : Ext wr W) => (hc W h).2.2.2.2.1
      have y5 := fun W (h : Ext wr W) => (hc W h).2.2.2.2.2.1
      have y6 := fun W (h : Ext wr W) => (hc W h).2.2.2.2.2.2
      have HV1 := fun W => @tvalid_any W v
      have HV2 := fun W => @dvalid_any W v
      have HS1 := fun W => @tsame_any v W
      have HS2 := fun W => @dsame_any v W hok.real hok.re hok.im
      have HB := fun W => @bits_any (sameV v) W
      have hq := neqV (sameV v) (sameV v)
      rw [decide_eq_true rfl] at hq
      generalize validV v = q at *
      generalize sameV v = s at *
      have hqq : (q != q) = false := by simp
      clear hc hv hok
      go_wp2_with fail
      refine (value_any (v := v)).mono ?_
      rintro e w2 ⟨rfl, hE2⟩
      clear c0 c1 c2 c3 c4 c5 c6
      go_wp2
      refine wp_cut (fun W => Ext wr W ∧ W.heap[w2.heap.size]? = some (.cells #[.int .i64 v.kind, .bool v.bool, .int .i64 v.int, .float .f64 v.real, .complex .f64 v.re v.im, str v.text] 56)) ⟨hE2.trans (ext_alloc _ _), heap_alloc_new _ _⟩ ?_
      rintro w3 ⟨hE3, hb⟩
      clear hE2
      refine wp_region_rg Ext rel_ext (fun _ => True) [0, 1, 2, 3, 4, 5, 6, 7, 8, 9, 10, 11, 12, 13, 14, 15, 16, 17, 18] (fun i => match i with
        | 1 => some fun _ z _ => z = .bool q
        | 6 => some fun _ z _ => z = .bool q
        | 10 => some fun _ z _ => z = s.p
        | 11 => some fun _ z _ => z = s.d
        | 16 => some fun _ z _ => z = s.d
        | _ => none) (fun _ => none) (fun _ => false) (by kernel_rfl) (by kernel_rfl) (fun _ _ _ _ => trivial) trivial (fun W N hW _ hN => ?_)
      have hEW := hE3.trans hW
      have e0 : ∀ w', Ext W w' → w'.cell? ⟨w2.heap.size, 0, none⟩ = some (.int .i64 v.kind) := fun w' h => cell_of_row _ _ _ _ _ _ ((hW.trans h).blk hb)
      have e1 : ∀ w', Ext W w' → w'.cell? ⟨w2.heap.size, 1, none⟩ = some (.bool v.bool) := fun w' h => cell_of_row _ _ _ _ _ _ ((hW.trans h).blk hb)
      have e2 : ∀ w', Ext W w' → w'.cell? ⟨w2.heap.size, 2, none⟩ = some (.int .i64 v.int) := fun w' h => cell_of_row _ _ _ _ _ _ ((hW.trans h).blk hb)
      have e3 : ∀ w', Ext W w' → w'.cell? ⟨w2.heap.size, 3, none⟩ = some (.float .f64 v.real) := fun w' h => cell_of_row _ _ _ _ _ _ ((hW.trans h).blk hb)
      have e4 : ∀ w', Ext W w' → w'.cell? ⟨w2.heap.size, 4, none⟩ = some (.complex .f64 v.re v.im) := fun w' h => cell_of_row _ _ _ _ _ _ ((hW.trans h).blk hb)
      have e5 : ∀ w', Ext W w' → w'.cell? ⟨w2.heap.size, 5, none⟩ = some (str v.text) := fun w' h => cell_of_row _ _ _ _ _ _ ((hW.trans h).blk hb)
      repeat (first | (apply wpR_one; (case ho => (simp only [List.getElem?_toArray, List.getElem?_cons_succ, List.getElem?_cons_zero]; try exact rfl)); (case hw => rfl); (case hl => rfl); (case hsp => rfl); (case he => rfl); (case hv => (intro w' hw'; (try (have hw2 := Ext.trans hEW hw')); (try (have hw3 := Exc.trans hEW hw')); (try (have hw4 := Exk.trans hEW hw')); (try (have hw5 := Mrk.trans hEW hw')); go_simp; exact rfl)); (case hw0 => (first | exact Below.refl _ _ | exact Exc.of_ext (Below.refl _ _) | exact Exk.of_ext (Below.refl _ _) | exact Mrk.of_ext (Below.refl _ _))); simp only [Act.put, List.setIfInBounds_toArray, List.set_cons_succ, List.set_cons_zero]) | (apply wpR_early; (case ho => (simp only [List.getElem?_toArray, List.getElem?_cons_succ, List.getElem?_cons_zero]; try exact rfl)); (case hw => rfl); (case hl => rfl); (case hsp => rfl); (case he => rfl); (case hv => (intro w' hw'; (try have hw2 := Ext.trans hEW hw'); go_simp; exact rfl)); simp only [Act.put, List.setIfInBounds_toArray, List.set_cons_succ, List.set_cons_zero]) | (apply wpR_pass; (case ho => (simp only [List.getElem?_toArray, List.getElem?_cons_succ, List.getElem?_cons_zero]; try exact rfl)); (case hw => rfl); (case hl => rfl); simp only [Act.put, List.setIfInBounds_toArray, List.set_cons_succ, List.set_cons_zero]))
      refine wpR_new (by ((simp only [List.getElem?_toArray, List.getElem?_cons_succ, List.getElem?_cons_zero]; try exact rfl))) _ rfl rfl rfl (fun V v => Lasts.pure) (fun V V' h => rfl) (fun w' hw' hK => ?_) (fun z hz => ?_)
      · unfold opAt; go_simp; refine upAt_enter ?_
        refine (HV1 _).mono ?_
        rintro e w2 ⟨rfl, hE2⟩
        exact ⟨_, rfl, hE2, rfl⟩
      obtain ⟨_, _, _, rfl⟩ := hz
      simp only [Act.put, List.setIfInBounds_toArray, List.set_cons_succ, List.set_cons_zero]
      repeat (first | (apply wpR_one; (case ho => (simp only [List.getElem?_toArray, List.getElem?_cons_succ, List.getElem?_cons_zero]; try exact rfl)); (case hw => rfl); (case hl => rfl); (case hsp => rfl); (case he => rfl); (case hv => (intro w' hw'; (try (have hw2 := Ext.trans hEW hw')); (try (have hw3 := Exc.trans hEW hw')); (try (have hw4 := Exk.trans hEW hw')); (try (have hw5 := Mrk.trans hEW hw')); go_simp; exact rfl)); (case hw0 => (first | exact Below.refl _ _ | exact Exc.of_ext (Below.refl _ _) | exact Exk.of_ext (Below.refl _ _) | exact Mrk.of_ext (Below.refl _ _))); simp only [Act.put, List.setIfInBounds_toArray, List.set_cons_succ, List.set_cons_zero]) | (apply wpR_early; (case ho => (simp only [List.getElem?_toArray, List.getElem?_cons_succ, List.getElem?_cons_zero]; try exact rfl)); (case hw => rfl); (case hl => rfl); (case hsp => rfl); (case he => rfl); (case hv => (intro w' hw'; (try have hw2 := Ext.trans hEW hw'); go_simp; exact rfl)); simp only [Act.put, List.setIfInBounds_toArray, List.set_cons_succ, List.set_cons_zero]) | (apply wpR_pass; (case ho => (simp only [List.getElem?_toArray, List.getElem?_cons_succ, List.getElem?_cons_zero]; try exact rfl)); (case hw => rfl); (case hl => rfl); simp only [Act.put, List.setIfInBounds_toArray, List.set_cons_succ, List.set_cons_zero]))
      refine wpR_new (by ((simp only [List.getElem?_toArray, List.getElem?_cons_succ, List.getElem?_cons_zero]; try exact rfl))) _ rfl rfl rfl (fun V v => Lasts.pure) (fun V V' h => rfl) (fun w' hw' hK => ?_) (fun z hz => ?_)
      · unfold opAt; go_simp; refine upAt_enter ?_
        refine (HV2 _).mono ?_
        rintro e w2 ⟨rfl, hE2⟩
        exact ⟨_, rfl, hE2, rfl⟩
      obtain ⟨_, _, _, rfl⟩ := hz
      simp only [Act.put, List.setIfInBounds_toArray, List.set_cons_succ, List.set_cons_zero]
      repeat (first | (apply wpR_one; (case ho => (simp only [List.getElem?_toArray, List.getElem?_cons_succ, List.getElem?_cons_zero]; try exact rfl)); (case hw => rfl); (case hl => rfl); (case hsp => rfl); (case he => rfl); (case hv => (intro w' hw'; (try (have hw2 := Ext.trans hEW hw')); (try (have hw3 := Exc.trans hEW hw')); (try (have hw4 := Exk.trans hEW hw')); (try (have hw5 := Mrk.trans hEW hw')); go_simp; exact rfl)); (case hw0 => (first | exact Below.refl _ _ | exact Exc.of_ext (Below.refl _ _) | exact Exk.of_ext (Below.refl _ _) | exact Mrk.of_ext (Below.refl _ _))); simp only [Act.put, List.setIfInBounds_toArray, List.set_cons_succ, List.set_cons_zero]) | (apply wpR_early; (case ho => (simp only [List.getElem?_toArray, List.getElem?_cons_succ, List.getElem?_cons_zero]; try exact rfl)); (case hw => rfl); (case hl => rfl); (case hsp => rfl); (case he => rfl); (case hv => (intro w' hw'; (try have hw2 := Ext.trans hEW hw'); go_simp; exact rfl)); simp only [Act.put, List.setIfInBounds_toArray, List.set_cons_succ, List.set_cons_zero]) | (apply wpR_pass; (case ho => (simp only [List.getElem?_toArray, List.getElem?_cons_succ, List.getElem?_cons_zero]; try exact rfl)); (case hw => rfl); (case hl => rfl); simp only [Act.put, List.setIfInBounds_toArray, List.set_cons_succ, List.set_cons_zero]))
      refine wpR_new (by ((simp only [List.getElem?_toArray, List.getElem?_cons_succ, List.getElem?_cons_zero]; try exact rfl))) _ rfl rfl rfl (fun V v => Lasts.pure) (fun V V' h => rfl) (fun w' hw' hK => ?_) (fun z hz => ?_)
      · unfold opAt; go_simp; refine upAt_enter ?_
        refine (HS1 _).mono ?_
        rintro e w2 ⟨rfl, hE2⟩
        exact ⟨_, rfl, hE2, rfl⟩
      obtain ⟨_, _, _, rfl⟩ := hz
      simp only [Act.put, List.setIfInBounds_toArray, List.set_cons_succ, List.set_cons_zero]
      refine wpR_new (by ((simp only [List.getElem?_toArray, List.getElem?_cons_succ, List.getElem?_cons_zero]; try exact rfl))) _ rfl rfl rfl (fun V v => Lasts.pure) (fun V V' h => rfl) (fun w' hw' hK => ?_) (fun z hz => ?_)
      · unfold opAt; go_simp; refine upAt_enter ?_
        refine (HB _).mono ?_
        rintro e w2 ⟨rfl, hE2⟩
        exact ⟨_, rfl, hE2, rfl⟩
      obtain ⟨_, _, _, rfl⟩ := hz
      simp only [Act.put, List.setIfInBounds_toArray, List.set_cons_succ, List.set_cons_zero]
      repeat (first | (apply wpR_one; (case ho => (simp only [List.getElem?_toArray, List.getElem?_cons_succ, List.getElem?_cons_zero]; try exact rfl)); (case hw => rfl); (case hl => rfl); (case hsp => rfl); (case he => rfl); (case hv => (intro w' hw'; (try (have hw2 := Ext.trans hEW hw')); (try (have hw3 := Exc.trans hEW hw')); (try (have hw4 := Exk.trans hEW hw')); (try (have hw5 := Mrk.trans hEW hw')); go_simp; exact rfl)); (case hw0 => (first | exact Below.refl _ _ | exact Exc.of_ext (Below.refl _ _) | exact Exk.of_ext (Below.refl _ _) | exact Mrk.of_ext (Below.refl _ _))); simp only [Act.put, List.setIfInBounds_toArray, List.set_cons_succ, List.set_cons_zero]) | (apply wpR_early; (case ho => (simp only [List.getElem?_toArray, List.getElem?_cons_succ, List.getElem?_cons_zero]; try exact rfl)); (case hw => rfl); (case hl => rfl); (case hsp => rfl); (case he => rfl); (case hv => (intro w' hw'; (try have hw2 := Ext.trans hEW hw'); go_simp; exact rfl)); simp only [Act.put, List.setIfInBounds_toArray, List.set_cons_succ, List.set_cons_zero]) | (apply wpR_pass; (case ho => (simp only [List.getElem?_toArray, List.getElem?_cons_succ, List.getElem?_cons_zero]; try exact rfl)); (case hw => rfl); (case hl => rfl); simp only [Act.put, List.setIfInBounds_toArray, List.set_cons_succ, List.set_cons_zero]))
      refine wpR_new (by ((simp only [List.getElem?_toArray, List.getElem?_cons_succ, List.getElem?_cons_zero]; try exact rfl))) _ rfl rfl rfl (fun V v => Lasts.pure) (fun V V' h => rfl) (fun w' hw' hK => ?_) (fun z hz => ?_)
      · unfold opAt; go_simp; refine upAt_enter ?_
        refine (HS2 _).mono ?_
        rintro e w2 ⟨rfl, hE2⟩
        exact ⟨_, rfl, hE2, rfl⟩
      obtain ⟨_, _, _, rfl⟩ := hz
      simp only [Act.put, List.setIfInBounds_toArray, List.set_cons_succ, List.set_cons_zero]
      repeat (first | (apply wpR_one; (case ho => (simp only [List.getElem?_toArray, List.getElem?_cons_succ, List.getElem?_cons_zero]; try exact rfl)); (case hw => rfl); (case hl => rfl); (case hsp => rfl); (case he => rfl); (case hv => (intro w' hw'; (try (have hw2 := Ext.trans hEW hw')); (try (have hw3 := Exc.trans hEW hw')); (try (have hw4 := Exk.trans hEW hw')); (try (have hw5 := Mrk.trans hEW hw')); go_simp; exact rfl)); (case hw0 => (first | exact Below.refl _ _ | exact Exc.of_ext (Below.refl _ _) | exact Exk.of_ext (Below.refl _ _) | exact Mrk.of_ext (Below.refl _ _))); simp only [Act.put, List.setIfInBounds_toArray, List.set_cons_succ, List.set_cons_zero]) | (apply wpR_early; (case ho => (simp only [List.getElem?_toArray, List.getElem?_cons_succ, List.getElem?_cons_zero]; try exact rfl)); (case hw => rfl); (case hl => rfl); (case hsp => rfl); (case he => rfl); (case hv => (intro w' hw'; (try have hw2 := Ext.trans hEW hw'); go_simp; exact rfl)); simp only [Act.put, List.setIfInBounds_toArray, List.set_cons_succ, List.set_cons_zero]) | (apply wpR_pass; (case ho => (simp only [List.getElem?_toArray, List.getElem?_cons_succ, List.getElem?_cons_zero]; try exact rfl)); (case hw => rfl); (case hl => rfl); simp only [Act.put, List.setIfInBounds_toArray, List.set_cons_succ, List.set_cons_zero]))
      apply wpR_nil
      apply hN
      intro w' hE' hK _
      have hE4 := (hE.trans hEW).trans hE'
      clear hK hN y0 y1 y2 y3 y4 y5 y6 e0 e1 e2 e3 e4 e5 HV1 HV2 HS1 HS2 HB hW hE3 hb hEW hE'
      go_wp2
      go_roundw
      case rel => exact ⟨k + 1, by omega, by go_num, hE4⟩
      case measure => simp [intOf]; omega
    · obtain rfl : k = x.length := by omega
      have HV1 := fun W => @tvalid_any W ⟨5, false, 0, 0, 0, 0, [97]⟩
      have HV2 := fun W => @tvalid_any W ⟨6, false, 0, 0, 0, 0, []⟩
      rw [show validV ⟨5, false, 0, 0, 0, 0, [97]⟩ = true from rfl] at HV1
      rw [show validV ⟨6, false, 0, 0, 0, 0, []⟩ = false from rfl] at HV2
      go_wp2_with fail
      refine (HV1 _).mono ?_
      rintro e w2 ⟨rfl, hE2⟩
      go_wp2_with fail
      refine (HV2 _).mono ?_
      rintro e w3 ⟨rfl, hE3⟩
      go_wp2_with fail
      refine works_any.mono ?_
      rintro e w4 ⟨rfl, hE4⟩
      go_wp2
      go_ret
      exact ⟨rfl, ((hE.trans hE2).trans hE3).trans hE4⟩
end Go.Proofs.Ytbjfgnkjmfcokaa
