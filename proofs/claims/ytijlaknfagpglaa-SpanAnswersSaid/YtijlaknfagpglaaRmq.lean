/- The contract of span's Meet, whose lists share no memory. No condition but that each list lies in memory as a slice. The contract of span.Split, whose lists share no memory. No condition but that each list lies in memory as a slice. The reference's greater, lesser, Meet. No condition but that each list lies in memory as a slice. The reference's Above. No condition but that the list lies in memory as a slice. The reference's Split. No condition but that each list lies in memory as a slice. -/
import Derived.Test.YtijlaknfagpglaaSpann
import Derived.Test.YtijlaknfagpglaaSpsplit
import Derived.Test.YtijlaknfagpglaaSpanf
namespace Go.Proofs.Ytijlaknfagpglaa
open Go.RowKit Go.Proofs
set_option maxRecDepth 8000 in
set_option maxHeartbeats 4000000 in
theorem meetq_any {aA aB bA bB : Option Addr} {ac ad bc bd : Nat} {a ah b bh : List UInt8} {ao bo : Bool} {w : World} (ha : Sl w aA ac a) (hah : Sl w aB ad ah) (hb : Sl w bA bc b) (hbh : Sl w bB bd bh) :
    Calls Try.prog 30 #[.agg #[.slice aA a.length ac, .slice aB ah.length ad, .bool ao], .agg #[.slice bA b.length bc, .slice bB bh.length bd, .bool bo]] w fun e w' => ∃ A c B d r, r = meetB ⟨a, ah, ao⟩ ⟨b, bh, bo⟩ ∧
      e = .returned (.agg #[.slice A r.lo.length c, .slice B r.hi.length d, .bool r.op]) ∧ Own 5 w.heap.size w' A c r.lo ∧ Own 5 w.heap.size w' B d r.hi ∧ NoShare (.slice A r.lo.length c) (.slice B r.hi.length d) ∧ Ext w w' := by
  go_enter Try.func30, Try.ntmps30
  go_wp2
  refine wp_cut (fun W => Ext w W ∧ W.heap[w.heap.size]? = some (.cells #[.slice aA a.length ac, .slice aB ah.length ad, .bool ao] 32) ∧ W.heap[w.heap.size + 1]? = some (.cells #[.slice bA b.length bc, .slice bB bh.length bd, .bool bo] 32) ∧ W.heap[w.heap.size + 1 + 1]? = some (.cells #[.slice none 0 0, .slice none 0 0, .bool false] 32)) ⟨((ext_alloc _ _).trans (ext_alloc _ _)).trans (ext_alloc _ _), (ext_alloc _ _).blk (heap_alloc2_old _ _ _), (ext_alloc _ _).blk (heap_alloc2_new _ _ _), by rw [show w.heap.size + 1 + 1 = ((w.alloc _).alloc _).heap.size by simp]; exact heap_alloc_new _ _⟩ ?_
  rintro w1 ⟨hE, hb1, hb2, hb3⟩
  have hlt3 := (Array.getElem?_eq_some_iff.1 hb3).1
  refine wp_region_mild 13 (fun i => match i with
    | 4 => some fun _ v w' => SOwn 5 w1.heap.size (maxB a b) v w'
    | 12 => some fun _ v w' => NewBlk 32 w1.heap.size #[.slice none 0 0, .slice none 0 0, .bool false] v w'
    | _ => none) (by kernel_rfl) (by kernel_rfl) (fun W N hW hN => ?_)
  have hE1 := hE.trans hW
  have ea0 : ∀ w', Ext W w' → w'.cell? ⟨w.heap.size, 0, none⟩ = some (.slice aA a.length ac) := fun w' h => cell_of_row _ _ _ _ _ _ ((hW.trans h).blk hb1)
  have ea2 : ∀ w', Ext W w' → w'.cell? ⟨w.heap.size, 2, none⟩ = some (.bool ao) := fun w' h => cell_of_row _ _ _ _ _ _ ((hW.trans h).blk hb1)
  have eb0 : ∀ w', Ext W w' → w'.cell? ⟨w.heap.size + 1, 0, none⟩ = some (.slice bA b.length bc) := fun w' h => cell_of_row _ _ _ _ _ _ ((hW.trans h).blk hb2)
  have eb2 : ∀ w', Ext W w' → w'.cell? ⟨w.heap.size + 1, 2, none⟩ = some (.bool bo) := fun w' h => cell_of_row _ _ _ _ _ _ ((hW.trans h).blk hb2)
  cases ao <;> cases bo
  · simp only [List.take_succ_cons, List.take_zero]
    repeat (first | (apply wpM_one; (case hg => rfl); (case hsp => rfl); (case hv => (intro w' hw'; go_simp; exact rfl)); simp only [Act.put, List.setIfInBounds_toArray, List.set_cons_succ, List.set_cons_zero]; try simp only [wrap_zero]) | (apply wpM_oneG; (case hw => rfl); (case hsp => rfl); (case hv => (intro w' hw'; go_simp; exact rfl)); simp only [Act.put, List.setIfInBounds_toArray, List.set_cons_succ, List.set_cons_zero]; try simp only [wrap_zero]) | (apply wpM_pass; (case hw => rfl); simp only [Act.put, List.setIfInBounds_toArray, List.set_cons_succ, List.set_cons_zero]; try simp only [wrap_zero]))
    refine wpM_new _ rfl rfl (fun V v => SOwn.stable _ _ _ _) (fun V V' h => rfl) (fun w' hw' hK => ?_) (fun v hv => ?_)
    · unfold mildAt; go_simp; rw [mildUpon_enter]
      refine ⟨Below.refl _ _, (more_any (ha.ext (hE1.trans hw')) (hb.ext (hE1.trans hw')) rfl rfl).mono ?_⟩
      rintro e w2 ⟨A, c, rfl, ho, hE2⟩
      exact ⟨_, rfl, hE2, A, c, rfl, ho.mono (hW.trans hw').size⟩
    obtain ⟨_, _, _, A1, c1, rfl, _⟩ := hv
    simp only [Act.put, List.setIfInBounds_toArray, List.set_cons_succ, List.set_cons_zero]
    repeat (first | (apply wpM_one; (case hg => rfl); (case hsp => rfl); (case hv => (intro w' hw'; go_simp; exact rfl)); simp only [Act.put, List.setIfInBounds_toArray, List.set_cons_succ, List.set_cons_zero]; try simp only [wrap_zero]) | (apply wpM_oneG; (case hw => rfl); (case hsp => rfl); (case hv => (intro w' hw'; go_simp; exact rfl)); simp only [Act.put, List.setIfInBounds_toArray, List.set_cons_succ, List.set_cons_zero]; try simp only [wrap_zero]) | (apply wpM_pass; (case hw => rfl); simp only [Act.put, List.setIfInBounds_toArray, List.set_cons_succ, List.set_cons_zero]; try simp only [wrap_zero]))
    refine wpM_new _ rfl rfl (fun V v => NewBlk.stable _ _ _ _) (fun V V' h => rfl) (fun w' hw' hK => ?_) (fun v hv => ?_)
    · unfold mildAt
      go_simp
      rw [mildUpon_value]
      exact ⟨ext_alloc _ _, _, rfl, (hW.trans hw').size, heap_alloc_new _ _⟩
    obtain ⟨_, _, _, g5, rfl, _⟩ := hv
    simp only [Act.put, List.setIfInBounds_toArray, List.set_cons_succ, List.set_cons_zero]
    apply wpM_nil
    apply hN
    intro w5 hE5 hK
    have k4 := (hK 4).2
    obtain ⟨g5', hg5, hgB, hblk⟩ := (hK 12).2
    obtain rfl : g5 = g5' := by injection hg5 with h; injection h with h; injection h
    clear hK hN hg5 ea0 ea2 eb0 eb2
    have hE15 := hW.trans hE5
    clear hE5 hW
    have HMX := Lib.hid k4.own
    clear k4
    simp only [List.drop_succ_cons, List.drop_zero]
    refine wpList_store_box rfl 32 _ _ rfl g5 _ rfl rfl 32 _ hblk (by kernel_rfl) rfl (by simp [Value.oneCell']) (fun w6 hb6 hg6 => ?_)
    have o6 := HMX.out.other hblk (by decide) hg6
    have hEz := ext_only hE15 hg6 hgB
    have hE6 := hE.trans hEz
    have r1 := hEz.blk hb1
    have r2 := hEz.blk hb2
    have r3 := hEz.blk hb3
    clear hblk hg6 hE15 HMX hE1
    have fa1 : w6.cell? ⟨w.heap.size, 1, none⟩ = some (.slice aB ah.length ad) := cell_of_row _ _ _ _ _ _ r1
    have fa2 : w6.cell? ⟨w.heap.size, 2, none⟩ = some (.bool false) := cell_of_row _ _ _ _ _ _ r1
    have fb1 : w6.cell? ⟨w.heap.size + 1, 1, none⟩ = some (.slice bB bh.length bd) := cell_of_row _ _ _ _ _ _ r2
    have fb2 : w6.cell? ⟨w.heap.size + 1, 2, none⟩ = some (.bool false) := cell_of_row _ _ _ _ _ _ r2
    have fo0 : w6.cell? ⟨g5, 0, none⟩ = some (.slice A1 (maxB a b).length c1) := cell_of_row _ _ _ _ _ _ hb6
    have fo1 : w6.cell? ⟨g5, 1, none⟩ = some (.slice none 0 0) := cell_of_row _ _ _ _ _ _ hb6
    have fo2 : w6.cell? ⟨g5, 2, none⟩ = some (.bool false) := cell_of_row _ _ _ _ _ _ hb6
    go_wp2_with fail
    refine (less_any (hah.ext hE6) (hbh.ext hE6) rfl rfl).mono ?_
    rintro e w7 ⟨A7, c7, rfl, o7, hE7⟩
    have hns := Lib.hid (noShare_of o6 (Nat.le_refl _) o7)
    have q6 := hE7.blk hb6
    have o67 := o6.ext hE7
    have hE17 := hEz.trans hE7
    have hfo0 := hE7.cell fo0
    have hfo1 := hE7.cell fo1
    have hfo2 := hE7.cell fo2
    have hfz := frozen_of_row w7 g5 1 _ _ q6
    have hE8 := ext_store (p := ⟨g5, 1, none⟩) (hE6.trans hE7) (Nat.le_trans hE.size hgB) (.slice A7 (minB ah bh).length c7)
    have hE18 := ext_store (p := ⟨g5, 1, none⟩) hE17 hgB (.slice A7 (minB ah bh).length c7)
    have q8 : (w7.setCell ⟨g5, 1, none⟩ (.slice A7 (minB ah bh).length c7)).grownBy _ (some g5) := World.grownBy.refl _ _
    have hk8 : w7.grownBy (w7.setCell ⟨g5, 1, none⟩ (.slice A7 (minB ah bh).length c7)) (some g5) := ⟨rfl, rfl, rfl, by simp, fun k _ hk => heap_setCell_other w7 ⟨g5, 1, none⟩ k _ (fun e => hk (by simp [e]))⟩
    have o8 := o67.other q6 (by decide) hk8
    have p8 := o7.other q6 (by decide) hk8
    have hr3 := hE18.blk hb3
    clear hEz hE17 o67 o7 o6 hE7 q8 fo0 fo1 fo2 fa1 fa2 fb1 fb2
    go_wp2_with (refine wpList_store_box rfl 32 _ _ rfl (w.heap.size + 1 + 1) _ rfl rfl 32 _ hr3 (by kernel_rfl) rfl (by simp [Value.oneCell']) ?_; intro w9 hb9 hg9)
    have o9 := (o8.other hr3 (by decide) hg9).mono hE.size
    have p9 := (p8.other hr3 (by decide) hg9).mono hE6.size
    have hE9 := ext_only hE8 hg9 (by omega)
    go_wp2
    exact bodyPost_ret (results_cell_row rfl _ _ _ _ _ _ _ rfl hb9 Try.underlying32 rfl (by kernel_rfl)) rfl ⟨_, _, _, _, _, rfl, rfl, o9, p9, hns.out, hE9⟩
  · simp only [List.take_succ_cons, List.take_zero]
    repeat (first | (apply wpM_one; (case hg => rfl); (case hsp => rfl); (case hv => (intro w' hw'; go_simp; exact rfl)); simp only [Act.put, List.setIfInBounds_toArray, List.set_cons_succ, List.set_cons_zero]; try simp only [wrap_zero]) | (apply wpM_oneG; (case hw => rfl); (case hsp => rfl); (case hv => (intro w' hw'; go_simp; exact rfl)); simp only [Act.put, List.setIfInBounds_toArray, List.set_cons_succ, List.set_cons_zero]; try simp only [wrap_zero]) | (apply wpM_pass; (case hw => rfl); simp only [Act.put, List.setIfInBounds_toArray, List.set_cons_succ, List.set_cons_zero]; try simp only [wrap_zero]))
    refine wpM_new _ rfl rfl (fun V v => SOwn.stable _ _ _ _) (fun V V' h => rfl) (fun w' hw' hK => ?_) (fun v hv => ?_)
    · unfold mildAt; go_simp; rw [mildUpon_enter]
      refine ⟨Below.refl _ _, (more_any (ha.ext (hE1.trans hw')) (hb.ext (hE1.trans hw')) rfl rfl).mono ?_⟩
      rintro e w2 ⟨A, c, rfl, ho, hE2⟩
      exact ⟨_, rfl, hE2, A, c, rfl, ho.mono (hW.trans hw').size⟩
    obtain ⟨_, _, _, A1, c1, rfl, _⟩ := hv
    simp only [Act.put, List.setIfInBounds_toArray, List.set_cons_succ, List.set_cons_zero]
    repeat (first | (apply wpM_one; (case hg => rfl); (case hsp => rfl); (case hv => (intro w' hw'; go_simp; exact rfl)); simp only [Act.put, List.setIfInBounds_toArray, List.set_cons_succ, List.set_cons_zero]; try simp only [wrap_zero]) | (apply wpM_oneG; (case hw => rfl); (case hsp => rfl); (case hv => (intro w' hw'; go_simp; exact rfl)); simp only [Act.put, List.setIfInBounds_toArray, List.set_cons_succ, List.set_cons_zero]; try simp only [wrap_zero]) | (apply wpM_pass; (case hw => rfl); simp only [Act.put, List.setIfInBounds_toArray, List.set_cons_succ, List.set_cons_zero]; try simp only [wrap_zero]))
    refine wpM_new _ rfl rfl (fun V v => NewBlk.stable _ _ _ _) (fun V V' h => rfl) (fun w' hw' hK => ?_) (fun v hv => ?_)
    · unfold mildAt
      go_simp
      rw [mildUpon_value]
      exact ⟨ext_alloc _ _, _, rfl, (hW.trans hw').size, heap_alloc_new _ _⟩
    obtain ⟨_, _, _, g5, rfl, _⟩ := hv
    simp only [Act.put, List.setIfInBounds_toArray, List.set_cons_succ, List.set_cons_zero]
    apply wpM_nil
    apply hN
    intro w5 hE5 hK
    have k4 := (hK 4).2
    obtain ⟨g5', hg5, hgB, hblk⟩ := (hK 12).2
    obtain rfl : g5 = g5' := by injection hg5 with h; injection h with h; injection h
    clear hK hN hg5 ea0 ea2 eb0 eb2
    have hE15 := hW.trans hE5
    clear hE5 hW
    have HMX := Lib.hid k4.own
    clear k4
    simp only [List.drop_succ_cons, List.drop_zero]
    refine wpList_store_box rfl 32 _ _ rfl g5 _ rfl rfl 32 _ hblk (by kernel_rfl) rfl (by simp [Value.oneCell']) (fun w6 hb6 hg6 => ?_)
    have o6 := HMX.out.other hblk (by decide) hg6
    have hEz := ext_only hE15 hg6 hgB
    have hE6 := hE.trans hEz
    have r1 := hEz.blk hb1
    have r2 := hEz.blk hb2
    have r3 := hEz.blk hb3
    clear hblk hg6 hE15 HMX hE1
    have fa1 : w6.cell? ⟨w.heap.size, 1, none⟩ = some (.slice aB ah.length ad) := cell_of_row _ _ _ _ _ _ r1
    have fa2 : w6.cell? ⟨w.heap.size, 2, none⟩ = some (.bool false) := cell_of_row _ _ _ _ _ _ r1
    have fb1 : w6.cell? ⟨w.heap.size + 1, 1, none⟩ = some (.slice bB bh.length bd) := cell_of_row _ _ _ _ _ _ r2
    have fb2 : w6.cell? ⟨w.heap.size + 1, 2, none⟩ = some (.bool true) := cell_of_row _ _ _ _ _ _ r2
    have fo0 : w6.cell? ⟨g5, 0, none⟩ = some (.slice A1 (maxB a b).length c1) := cell_of_row _ _ _ _ _ _ hb6
    have fo1 : w6.cell? ⟨g5, 1, none⟩ = some (.slice none 0 0) := cell_of_row _ _ _ _ _ _ hb6
    have fo2 : w6.cell? ⟨g5, 2, none⟩ = some (.bool false) := cell_of_row _ _ _ _ _ _ hb6
    go_wp2_with fail
    refine (fresh0_any (hah.ext hE6) rfl).mono ?_
    rintro e w7 ⟨g7, rfl, hg7, hk7, hE7⟩
    have o7 := hk7.whole hg7 (by have := hah.len; omega)
    clear hk7 hg7
    obtain ⟨A7, hA7⟩ : ∃ A7, A7 = (some ⟨g7, 0, none⟩ : Option Addr) := ⟨_, rfl⟩
    obtain ⟨c7, hc7⟩ : ∃ c7, c7 = ah.length := ⟨_, rfl⟩
    have hns := Lib.hid (noShare_of o6 (Nat.le_refl _) o7)
    have q6 := hE7.blk hb6
    have o67 := o6.ext hE7
    have hE17 := hEz.trans hE7
    have hfo0 := hE7.cell fo0
    have hfo1 := hE7.cell fo1
    have hfo2 := hE7.cell fo2
    have hfz := frozen_of_row w7 g5 1 _ _ q6
    have hE8 := ext_store (p := ⟨g5, 1, none⟩) (hE6.trans hE7) (Nat.le_trans hE.size hgB) (.slice (some ⟨g7, 0, none⟩) ah.length ah.length)
    have hE18 := ext_store (p := ⟨g5, 1, none⟩) hE17 hgB (.slice (some ⟨g7, 0, none⟩) ah.length ah.length)
    have q8 : (w7.setCell ⟨g5, 1, none⟩ (.slice (some ⟨g7, 0, none⟩) ah.length ah.length)).grownBy _ (some g5) := World.grownBy.refl _ _
    have hk8 : w7.grownBy (w7.setCell ⟨g5, 1, none⟩ (.slice (some ⟨g7, 0, none⟩) ah.length ah.length)) (some g5) := ⟨rfl, rfl, rfl, by simp, fun k _ hk => heap_setCell_other w7 ⟨g5, 1, none⟩ k _ (fun e => hk (by simp [e]))⟩
    have o8 := o67.other q6 (by decide) hk8
    have p8 := o7.other q6 (by decide) hk8
    have hr3 := hE18.blk hb3
    clear hEz hE17 o67 o7 o6 hE7 q8 fo0 fo1 fo2 fa1 fa2 fb1 fb2
    go_wp2_with (refine wpList_store_box rfl 32 _ _ rfl (w.heap.size + 1 + 1) _ rfl rfl 32 _ hr3 (by kernel_rfl) rfl (by simp [Value.oneCell']) ?_; intro w9 hb9 hg9)
    have o9 := (o8.other hr3 (by decide) hg9).mono hE.size
    have p9 := (p8.other hr3 (by decide) hg9).mono hE6.size
    have hE9 := ext_only hE8 hg9 (by omega)
    go_wp2
    exact bodyPost_ret (results_cell_row rfl _ _ _ _ _ _ _ rfl hb9 Try.underlying32 rfl (by kernel_rfl)) rfl ⟨_, _, _, _, _, rfl, rfl, o9, p9, hns.out, hE9⟩
  · simp only [List.take_succ_cons, List.take_zero]
    repeat (first | (apply wpM_one; (case hg => rfl); (case hsp => rfl); (case hv => (intro w' hw'; go_simp; exact rfl)); simp only [Act.put, List.setIfInBounds_toArray, List.set_cons_succ, List.set_cons_zero]; try simp only [wrap_zero]) | (apply wpM_oneG; (case hw => rfl); (case hsp => rfl); (case hv => (intro w' hw'; go_simp; exact rfl)); simp only [Act.put, List.setIfInBounds_toArray, List.set_cons_succ, List.set_cons_zero]; try simp only [wrap_zero]) | (apply wpM_pass; (case hw => rfl); simp only [Act.put, List.setIfInBounds_toArray, List.set_cons_succ, List.set_cons_zero]; try simp only [wrap_zero]))
    refine wpM_new _ rfl rfl (fun V v => SOwn.stable _ _ _ _) (fun V V' h => rfl) (fun w' hw' hK => ?_) (fun v hv => ?_)
    · unfold mildAt; go_simp; rw [mildUpon_enter]
      refine ⟨Below.refl _ _, (more_any (ha.ext (hE1.trans hw')) (hb.ext (hE1.trans hw')) rfl rfl).mono ?_⟩
      rintro e w2 ⟨A, c, rfl, ho, hE2⟩
      exact ⟨_, rfl, hE2, A, c, rfl, ho.mono (hW.trans hw').size⟩
    obtain ⟨_, _, _, A1, c1, rfl, _⟩ := hv
    simp only [Act.put, List.setIfInBounds_toArray, List.set_cons_succ, List.set_cons_zero]
    repeat (first | (apply wpM_one; (case hg => rfl); (case hsp => rfl); (case hv => (intro w' hw'; go_simp; exact rfl)); simp only [Act.put, List.setIfInBounds_toArray, List.set_cons_succ, List.set_cons_zero]; try simp only [wrap_zero]) | (apply wpM_oneG; (case hw => rfl); (case hsp => rfl); (case hv => (intro w' hw'; go_simp; exact rfl)); simp only [Act.put, List.setIfInBounds_toArray, List.set_cons_succ, List.set_cons_zero]; try simp only [wrap_zero]) | (apply wpM_pass; (case hw => rfl); simp only [Act.put, List.setIfInBounds_toArray, List.set_cons_succ, List.set_cons_zero]; try simp only [wrap_zero]))
    refine wpM_new _ rfl rfl (fun V v => NewBlk.stable _ _ _ _) (fun V V' h => rfl) (fun w' hw' hK => ?_) (fun v hv => ?_)
    · unfold mildAt
      go_simp
      rw [mildUpon_value]
      exact ⟨ext_alloc _ _, _, rfl, (hW.trans hw').size, heap_alloc_new _ _⟩
    obtain ⟨_, _, _, g5, rfl, _⟩ := hv
    simp only [Act.put, List.setIfInBounds_toArray, List.set_cons_succ, List.set_cons_zero]
    apply wpM_nil
    apply hN
    intro w5 hE5 hK
    have k4 := (hK 4).2
    obtain ⟨g5', hg5, hgB, hblk⟩ := (hK 12).2
    obtain rfl : g5 = g5' := by injection hg5 with h; injection h with h; injection h
    clear hK hN hg5 ea0 ea2 eb0 eb2
    have hE15 := hW.trans hE5
    clear hE5 hW
    have HMX := Lib.hid k4.own
    clear k4
    simp only [List.drop_succ_cons, List.drop_zero]
    refine wpList_store_box rfl 32 _ _ rfl g5 _ rfl rfl 32 _ hblk (by kernel_rfl) rfl (by simp [Value.oneCell']) (fun w6 hb6 hg6 => ?_)
    have o6 := HMX.out.other hblk (by decide) hg6
    have hEz := ext_only hE15 hg6 hgB
    have hE6 := hE.trans hEz
    have r1 := hEz.blk hb1
    have r2 := hEz.blk hb2
    have r3 := hEz.blk hb3
    clear hblk hg6 hE15 HMX hE1
    have fa1 : w6.cell? ⟨w.heap.size, 1, none⟩ = some (.slice aB ah.length ad) := cell_of_row _ _ _ _ _ _ r1
    have fa2 : w6.cell? ⟨w.heap.size, 2, none⟩ = some (.bool true) := cell_of_row _ _ _ _ _ _ r1
    have fb1 : w6.cell? ⟨w.heap.size + 1, 1, none⟩ = some (.slice bB bh.length bd) := cell_of_row _ _ _ _ _ _ r2
    have fb2 : w6.cell? ⟨w.heap.size + 1, 2, none⟩ = some (.bool false) := cell_of_row _ _ _ _ _ _ r2
    have fo0 : w6.cell? ⟨g5, 0, none⟩ = some (.slice A1 (maxB a b).length c1) := cell_of_row _ _ _ _ _ _ hb6
    have fo1 : w6.cell? ⟨g5, 1, none⟩ = some (.slice none 0 0) := cell_of_row _ _ _ _ _ _ hb6
    have fo2 : w6.cell? ⟨g5, 2, none⟩ = some (.bool false) := cell_of_row _ _ _ _ _ _ hb6
    go_wp2_with fail
    refine (fresh0_any (hbh.ext hE6) rfl).mono ?_
    rintro e w7 ⟨g7, rfl, hg7, hk7, hE7⟩
    have o7 := hk7.whole hg7 (by have := hbh.len; omega)
    clear hk7 hg7
    obtain ⟨A7, hA7⟩ : ∃ A7, A7 = (some ⟨g7, 0, none⟩ : Option Addr) := ⟨_, rfl⟩
    obtain ⟨c7, hc7⟩ : ∃ c7, c7 = bh.length := ⟨_, rfl⟩
    have hns := Lib.hid (noShare_of o6 (Nat.le_refl _) o7)
    have q6 := hE7.blk hb6
    have o67 := o6.ext hE7
    have hE17 := hEz.trans hE7
    have hfo0 := hE7.cell fo0
    have hfo1 := hE7.cell fo1
    have hfo2 := hE7.cell fo2
    have hfz := frozen_of_row w7 g5 1 _ _ q6
    have hE8 := ext_store (p := ⟨g5, 1, none⟩) (hE6.trans hE7) (Nat.le_trans hE.size hgB) (.slice (some ⟨g7, 0, none⟩) bh.length bh.length)
    have hE18 := ext_store (p := ⟨g5, 1, none⟩) hE17 hgB (.slice (some ⟨g7, 0, none⟩) bh.length bh.length)
    have q8 : (w7.setCell ⟨g5, 1, none⟩ (.slice (some ⟨g7, 0, none⟩) bh.length bh.length)).grownBy _ (some g5) := World.grownBy.refl _ _
    have hk8 : w7.grownBy (w7.setCell ⟨g5, 1, none⟩ (.slice (some ⟨g7, 0, none⟩) bh.length bh.length)) (some g5) := ⟨rfl, rfl, rfl, by simp, fun k _ hk => heap_setCell_other w7 ⟨g5, 1, none⟩ k _ (fun e => hk (by simp [e]))⟩
    have o8 := o67.other q6 (by decide) hk8
    have p8 := o7.other q6 (by decide) hk8
    have hr3 := hE18.blk hb3
    clear hEz hE17 o67 o7 o6 hE7 q8 fo0 fo1 fo2 fa1 fa2 fb1 fb2
    go_wp2_with (refine wpList_store_box rfl 32 _ _ rfl (w.heap.size + 1 + 1) _ rfl rfl 32 _ hr3 (by kernel_rfl) rfl (by simp [Value.oneCell']) ?_; intro w9 hb9 hg9)
    have o9 := (o8.other hr3 (by decide) hg9).mono hE.size
    have p9 := (p8.other hr3 (by decide) hg9).mono hE6.size
    have hE9 := ext_only hE8 hg9 (by omega)
    go_wp2
    exact bodyPost_ret (results_cell_row rfl _ _ _ _ _ _ _ rfl hb9 Try.underlying32 rfl (by kernel_rfl)) rfl ⟨_, _, _, _, _, rfl, rfl, o9, p9, hns.out, hE9⟩
  · simp only [List.take_succ_cons, List.take_zero]
    repeat (first | (apply wpM_one; (case hg => rfl); (case hsp => rfl); (case hv => (intro w' hw'; go_simp; exact rfl)); simp only [Act.put, List.setIfInBounds_toArray, List.set_cons_succ, List.set_cons_zero]; try simp only [wrap_zero]) | (apply wpM_oneG; (case hw => rfl); (case hsp => rfl); (case hv => (intro w' hw'; go_simp; exact rfl)); simp only [Act.put, List.setIfInBounds_toArray, List.set_cons_succ, List.set_cons_zero]; try simp only [wrap_zero]) | (apply wpM_pass; (case hw => rfl); simp only [Act.put, List.setIfInBounds_toArray, List.set_cons_succ, List.set_cons_zero]; try simp only [wrap_zero]))
    refine wpM_new _ rfl rfl (fun V v => SOwn.stable _ _ _ _) (fun V V' h => rfl) (fun w' hw' hK => ?_) (fun v hv => ?_)
    · unfold mildAt; go_simp; rw [mildUpon_enter]
      refine ⟨Below.refl _ _, (more_any (ha.ext (hE1.trans hw')) (hb.ext (hE1.trans hw')) rfl rfl).mono ?_⟩
      rintro e w2 ⟨A, c, rfl, ho, hE2⟩
      exact ⟨_, rfl, hE2, A, c, rfl, ho.mono (hW.trans hw').size⟩
    obtain ⟨_, _, _, A1, c1, rfl, _⟩ := hv
    simp only [Act.put, List.setIfInBounds_toArray, List.set_cons_succ, List.set_cons_zero]
    repeat (first | (apply wpM_one; (case hg => rfl); (case hsp => rfl); (case hv => (intro w' hw'; go_simp; exact rfl)); simp only [Act.put, List.setIfInBounds_toArray, List.set_cons_succ, List.set_cons_zero]; try simp only [wrap_zero]) | (apply wpM_oneG; (case hw => rfl); (case hsp => rfl); (case hv => (intro w' hw'; go_simp; exact rfl)); simp only [Act.put, List.setIfInBounds_toArray, List.set_cons_succ, List.set_cons_zero]; try simp only [wrap_zero]) | (apply wpM_pass; (case hw => rfl); simp only [Act.put, List.setIfInBounds_toArray, List.set_cons_succ, List.set_cons_zero]; try simp only [wrap_zero]))
    refine wpM_new _ rfl rfl (fun V v => NewBlk.stable _ _ _ _) (fun V V' h => rfl) (fun w' hw' hK => ?_) (fun v hv => ?_)
    · unfold mildAt
      go_simp
      rw [mildUpon_value]
      exact ⟨ext_alloc _ _, _, rfl, (hW.trans hw').size, heap_alloc_new _ _⟩
    obtain ⟨_, _, _, g5, rfl, _⟩ := hv
    simp only [Act.put, List.setIfInBounds_toArray, List.set_cons_succ, List.set_cons_zero]
    apply wpM_nil
    apply hN
    intro w5 hE5 hK
    have k4 := (hK 4).2
    obtain ⟨g5', hg5, hgB, hblk⟩ := (hK 12).2
    obtain rfl : g5 = g5' := by injection hg5 with h; injection h with h; injection h
    clear hK hN hg5 ea0 ea2 eb0 eb2
    have hE15 := hW.trans hE5
    clear hE5 hW
    have HMX := Lib.hid k4.own
    clear k4
    simp only [List.drop_succ_cons, List.drop_zero]
    refine wpList_store_box rfl 32 _ _ rfl g5 _ rfl rfl 32 _ hblk (by kernel_rfl) rfl (by simp [Value.oneCell']) (fun w6 hb6 hg6 => ?_)
    have o6 := HMX.out.other hblk (by decide) hg6
    have hEz := ext_only hE15 hg6 hgB
    have hE6 := hE.trans hEz
    have r1 := hEz.blk hb1
    have r2 := hEz.blk hb2
    have r3 := hEz.blk hb3
    clear hblk hg6 hE15 HMX hE1
    have fa1 : w6.cell? ⟨w.heap.size, 1, none⟩ = some (.slice aB ah.length ad) := cell_of_row _ _ _ _ _ _ r1
    have fa2 : w6.cell? ⟨w.heap.size, 2, none⟩ = some (.bool true) := cell_of_row _ _ _ _ _ _ r1
    have fb1 : w6.cell? ⟨w.heap.size + 1, 1, none⟩ = some (.slice bB bh.length bd) := cell_of_row _ _ _ _ _ _ r2
    have fb2 : w6.cell? ⟨w.heap.size + 1, 2, none⟩ = some (.bool true) := cell_of_row _ _ _ _ _ _ r2
    have fo0 : w6.cell? ⟨g5, 0, none⟩ = some (.slice A1 (maxB a b).length c1) := cell_of_row _ _ _ _ _ _ hb6
    have fo1 : w6.cell? ⟨g5, 1, none⟩ = some (.slice none 0 0) := cell_of_row _ _ _ _ _ _ hb6
    have fo2 : w6.cell? ⟨g5, 2, none⟩ = some (.bool true) := cell_of_row _ _ _ _ _ _ hb6
    have hr3 := r3
    go_wp2_with (refine wpList_store_box rfl 32 _ _ rfl (w.heap.size + 1 + 1) _ rfl rfl 32 _ hr3 (by kernel_rfl) rfl (by simp [Value.oneCell']) ?_; intro w9 hb9 hg9)
    have o9 := o6.other hr3 (by decide) hg9
    have hE9 := ext_only hE6 hg9 (by omega)
    go_wp2
    exact bodyPost_ret (results_cell_row rfl _ _ _ _ _ _ _ rfl hb9 Try.underlying32 rfl (by kernel_rfl)) rfl ⟨A1, c1, none, 0, _, rfl, rfl, o9.mono hE.size, own_nil _ _ _, noShare_nil _, hE9⟩
end Go.Proofs.Ytijlaknfagpglaa

namespace Go.Proofs.Ytijlaknfagpglaa
set_option linter.unusedVariables false
open Go.RowKit Go.Proofs
/-- A new list that shares no memory with a value. -/
def SOwnN (B : Nat) (bs : List UInt8) (u v : Value) (w : World) : Prop := NoShare u v ∧ SOwn 5 B bs v w
theorem SOwnN.lastsRg {C B : Nat} (bs : List UInt8) (u v : Value) : Lasts (Exk (RgBlk C)) (SOwnN B bs u v) := fun w w' h hx => ⟨h.1, SOwn.lastsRg bs v w w' h.2 hx⟩
theorem four_apart {a b c d : Value} (ab : NoShare a b) (ac : NoShare a c) (ad : NoShare a d) (bc : NoShare b c) (bd : NoShare b d) (cd : NoShare c d) : [a, b, c, d].Pairwise NoShare := by
  simp only [List.pairwise_cons, List.mem_cons, List.not_mem_nil, or_false, forall_eq_or_imp, forall_eq, false_imp_iff, implies_true, List.Pairwise.nil, and_true]
  exact ⟨⟨ab, ac, ad⟩, ⟨bc, bd⟩, cd⟩
set_option maxRecDepth 100000 in
set_option maxHeartbeats 2000000 in
theorem splitq_true {aA aB C : Option Addr} {ac ad f n : Nat} {a ah k : List UInt8} {w : World} (ha : Sl w aA ac a) (hah : Sl w aB ad ah) (hk : Sl w C f k) (hn : n = k.length) :
    Calls Try.prog 32 #[.agg #[.slice aA a.length ac, .slice aB ah.length ad, .bool true], .slice C n f] w fun e w' => ∃ A c B d A2 c2 B2 d2 r s, r = lowB ⟨a, ah, true⟩ k ∧ s = highB ⟨a, ah, true⟩ k ∧
      e = .returned (.tuple #[.agg #[.slice A r.lo.length c, .slice B r.hi.length d, .bool r.op], .agg #[.slice A2 s.lo.length c2, .slice B2 s.hi.length d2, .bool s.op]]) ∧
      Own 5 w.heap.size w' A c r.lo ∧ Own 5 w.heap.size w' B d r.hi ∧ Own 5 w.heap.size w' A2 c2 s.lo ∧ Own 5 w.heap.size w' B2 d2 s.hi ∧ [Value.slice A r.lo.length c, .slice B r.hi.length d, .slice A2 s.lo.length c2, .slice B2 s.hi.length d2].Pairwise NoShare ∧ Ext w w' := by
  subst hn
  have hla := ha.len
  have hlh := hah.len
  have hlk := hk.len
  go_enter Try.func32, Try.ntmps32
  go_wp2
  refine wp_cut (fun W => Ext w W ∧ W.heap[w.heap.size]? = some (.cells #[.slice aA a.length ac, .slice aB ah.length ad, .bool true] 32) ∧ W.heap[w.heap.size + 1]? = some (.cells #[.slice none 0 0, .slice none 0 0, .bool false] 32) ∧ W.heap[w.heap.size + 1 + 1]? = some (.cells #[.slice none 0 0, .slice none 0 0, .bool false] 32)) ⟨((ext_alloc _ _).trans (ext_alloc _ _)).trans (ext_alloc _ _), (ext_alloc _ _).blk (heap_alloc2_old _ _ _), (ext_alloc _ _).blk (heap_alloc2_new _ _ _), by rw [show w.heap.size + 1 + 1 = ((w.alloc _).alloc _).heap.size by simp]; exact heap_alloc_new _ _⟩ ?_
  rintro w1 ⟨hE, b0, b1, b2⟩
  have H0 := Lib.hid b0
  have H4 := Lib.hid b1
  have H5 := Lib.hid b2
  have hw1 : w.heap.size + 1 + 1 < w1.heap.size := (Array.getElem?_eq_some_iff.1 b2).1
  clear b0 b1 b2
  refine wp_region_rg (Exk (RgBlk w1.heap.size)) (rel_exk _) (fun _ => True) [0, 1, 2, 3, 4, 5, 6, 7, 8, 9, 10, 11, 12, 13, 14] (fun i => match i with
    | 2 => some fun V => SOwn 5 w1.heap.size a
    | 7 => some fun V => SOwnN w1.heap.size (maxB a k) (V 2)
    | 11 => some fun V => RgCell w1.heap.size
    | 12 => some fun V => RgCell w1.heap.size
    | _ => none) (fun i => match i with
    | 13 => some fun V _ => RgAt w1.heap.size (V 2) (.slice none 0 0) (.bool false) (V 11)
    | 14 => some fun V _ w' => RgAt w1.heap.size (V 2) (.slice none 0 0) (.bool false) (V 11) w' ∧ RgAt w1.heap.size (V 7) (.slice none 0 0) (.bool true) (V 12) w' ∧ V 11 ≠ V 12
    | _ => none) (fun _ => false) (by kernel_rfl) (by kernel_rfl) (fun _ _ h he => trivial) trivial (fun W N hW hF0 hN => ?_)
  have hEW : Exk (RgBlk w1.heap.size) w1 W := Exk.of_ext hW
  have hX : ∀ w', Exk (RgBlk w1.heap.size) W w' → Ext w w' := fun w' h => (Exk.trans hEW h).x.to_ext hE (fun k _ hk => by have := hk.1; omega)
  have e0 : ∀ w', Exk (RgBlk w1.heap.size) w1 w' → w'.cell? ⟨w.heap.size, 0, none⟩ = some (.slice aA a.length ac) := fun w' h => cell_of_row _ _ _ _ _ _ (h.x.blk H0.out (RgBlk.notLt (by omega)))
  have e1 : ∀ w', Exk (RgBlk w1.heap.size) w1 w' → w'.cell? ⟨w.heap.size, 1, none⟩ = some (.slice aB ah.length ad) := fun w' h => cell_of_row _ _ _ _ _ _ (h.x.blk H0.out (RgBlk.notLt (by omega)))
  have e2 : ∀ w', Exk (RgBlk w1.heap.size) w1 w' → w'.cell? ⟨w.heap.size, 2, none⟩ = some (.bool true) := fun w' h => cell_of_row _ _ _ _ _ _ (h.x.blk H0.out (RgBlk.notLt (by omega)))
  repeat (first | (apply wpR_one; (case ho => (simp only [List.getElem?_toArray, List.getElem?_cons_succ, List.getElem?_cons_zero]; try exact rfl)); (case hw => rfl); (case hl => rfl); (case hsp => rfl); (case he => rfl); (case hv => (intro w' hw'; (try (have hw2 := Ext.trans hEW hw')); (try (have hw3 := Exc.trans hEW hw')); (try (have hw4 := Exk.trans hEW hw')); (try (have hw5 := Mrk.trans hEW hw')); go_simp; exact rfl)); (case hw0 => (first | exact Below.refl _ _ | exact Exc.of_ext (Below.refl _ _) | exact Exk.of_ext (Below.refl _ _) | exact Mrk.of_ext (Below.refl _ _))); simp only [Act.put, List.setIfInBounds_toArray, List.set_cons_succ, List.set_cons_zero]) | (apply wpR_early; (case ho => (simp only [List.getElem?_toArray, List.getElem?_cons_succ, List.getElem?_cons_zero]; try exact rfl)); (case hw => rfl); (case hl => rfl); (case hsp => rfl); (case he => rfl); (case hv => (intro w' hw'; (try have hw2 := Ext.trans hEW hw'); go_simp; exact rfl)); simp only [Act.put, List.setIfInBounds_toArray, List.set_cons_succ, List.set_cons_zero]) | (apply wpR_pass; (case ho => (simp only [List.getElem?_toArray, List.getElem?_cons_succ, List.getElem?_cons_zero]; try exact rfl)); (case hw => rfl); (case hl => rfl); simp only [Act.put, List.setIfInBounds_toArray, List.set_cons_succ, List.set_cons_zero]))
  refine wpR_new (by ((simp only [List.getElem?_toArray, List.getElem?_cons_succ, List.getElem?_cons_zero]; try exact rfl))) _ rfl rfl rfl (fun V v => SOwn.lastsRg _ _) (fun V V' h => rfl) (fun w' hw' hK => ?_) (fun v hv => ?_)
  · have HX := Lib.hid (hX w' hw')
    have hs := (hEW.trans hw').x.size
    clear hK
    unfold opAt; go_simp; refine upAt_enter ?_
    refine (fresh0_any (ha.ext HX.out) rfl).mono ?_
    rintro e w9 ⟨g, rfl, hg, hbk, hE9⟩
    exact ⟨_, rfl, hE9, _, _, rfl, (hbk.whole hg (by omega)).mono hs⟩
  obtain ⟨A1, c1, rfl⟩ : ∃ A c, v = .slice A a.length c := by
    obtain ⟨_, _, _, A, c, h, _⟩ := hv
    exact ⟨A, c, h⟩
  clear hv
  simp only [Act.put, List.setIfInBounds_toArray, List.set_cons_succ, List.set_cons_zero]
  repeat (first | (apply wpR_one; (case ho => (simp only [List.getElem?_toArray, List.getElem?_cons_succ, List.getElem?_cons_zero]; try exact rfl)); (case hw => rfl); (case hl => rfl); (case hsp => rfl); (case he => rfl); (case hv => (intro w' hw'; (try (have hw2 := Ext.trans hEW hw')); (try (have hw3 := Exc.trans hEW hw')); (try (have hw4 := Exk.trans hEW hw')); (try (have hw5 := Mrk.trans hEW hw')); go_simp; exact rfl)); (case hw0 => (first | exact Below.refl _ _ | exact Exc.of_ext (Below.refl _ _) | exact Exk.of_ext (Below.refl _ _) | exact Mrk.of_ext (Below.refl _ _))); simp only [Act.put, List.setIfInBounds_toArray, List.set_cons_succ, List.set_cons_zero]) | (apply wpR_early; (case ho => (simp only [List.getElem?_toArray, List.getElem?_cons_succ, List.getElem?_cons_zero]; try exact rfl)); (case hw => rfl); (case hl => rfl); (case hsp => rfl); (case he => rfl); (case hv => (intro w' hw'; (try have hw2 := Ext.trans hEW hw'); go_simp; exact rfl)); simp only [Act.put, List.setIfInBounds_toArray, List.set_cons_succ, List.set_cons_zero]) | (apply wpR_pass; (case ho => (simp only [List.getElem?_toArray, List.getElem?_cons_succ, List.getElem?_cons_zero]; try exact rfl)); (case hw => rfl); (case hl => rfl); simp only [Act.put, List.setIfInBounds_toArray, List.set_cons_succ, List.set_cons_zero]))
  refine wpR_new (by ((simp only [List.getElem?_toArray, List.getElem?_cons_succ, List.getElem?_cons_zero]; try exact rfl))) _ rfl rfl rfl (fun V v => SOwnN.lastsRg _ _ _) (fun V V' h => by simp only [h 2 (by kernel_rfl)]) (fun w' hw' hK => ?_) (fun v hv => ?_)
  · have HX := Lib.hid (hX w' hw')
    have hs := (hEW.trans hw').x.size
    have K2 := Lib.hid (hK 2 (by kernel_rfl)).2
    clear hK
    unfold opAt; go_simp; refine upAt_enter ?_
    refine (more_any (ha.ext HX.out) (hk.ext HX.out) rfl rfl).mono ?_
    rintro e w9 ⟨A, c, rfl, ho, hE9⟩
    exact ⟨_, rfl, hE9, SOwn.noShare K2.out (Nat.le_refl _) ho, A, c, rfl, ho.mono hs⟩
  obtain ⟨A2, c2, rfl⟩ : ∃ A c, v = .slice A (maxB a k).length c := by
    obtain ⟨_, _, _, _, A, c, h, _⟩ := hv
    exact ⟨A, c, h⟩
  clear hv
  simp only [Act.put, List.setIfInBounds_toArray, List.set_cons_succ, List.set_cons_zero]
  repeat (first | (apply wpR_one; (case ho => (simp only [List.getElem?_toArray, List.getElem?_cons_succ, List.getElem?_cons_zero]; try exact rfl)); (case hw => rfl); (case hl => rfl); (case hsp => rfl); (case he => rfl); (case hv => (intro w' hw'; (try (have hw2 := Ext.trans hEW hw')); (try (have hw3 := Exc.trans hEW hw')); (try (have hw4 := Exk.trans hEW hw')); (try (have hw5 := Mrk.trans hEW hw')); go_simp; exact rfl)); (case hw0 => (first | exact Below.refl _ _ | exact Exc.of_ext (Below.refl _ _) | exact Exk.of_ext (Below.refl _ _) | exact Mrk.of_ext (Below.refl _ _))); simp only [Act.put, List.setIfInBounds_toArray, List.set_cons_succ, List.set_cons_zero]) | (apply wpR_early; (case ho => (simp only [List.getElem?_toArray, List.getElem?_cons_succ, List.getElem?_cons_zero]; try exact rfl)); (case hw => rfl); (case hl => rfl); (case hsp => rfl); (case he => rfl); (case hv => (intro w' hw'; (try have hw2 := Ext.trans hEW hw'); go_simp; exact rfl)); simp only [Act.put, List.setIfInBounds_toArray, List.set_cons_succ, List.set_cons_zero]) | (apply wpR_pass; (case ho => (simp only [List.getElem?_toArray, List.getElem?_cons_succ, List.getElem?_cons_zero]; try exact rfl)); (case hw => rfl); (case hl => rfl); simp only [Act.put, List.setIfInBounds_toArray, List.set_cons_succ, List.set_cons_zero]))
  refine wpR_alloc (by ((simp only [List.getElem?_toArray, List.getElem?_cons_succ, List.getElem?_cons_zero]; try exact rfl))) _ rfl rfl rfl (fun V v => RgCell.lasts _ _) (fun V V' h => rfl) (fun w' hw' hK => ?_) (fun v hv => ?_)
  · have hXs := (hEW.trans hw').x.size
    unfold opAt
    go_simp
    exact upAt_value ⟨ext_alloc _ _, ⟨_, rfl, hXs, _, heap_alloc_new _ _, rfl⟩, fun _ g hg => by injection hg with hg; exact ⟨hg.symm, by simp⟩⟩
  obtain ⟨g6, rfl⟩ : ∃ g, v = .pointer (some ⟨g, 0, none⟩) := by
    obtain ⟨_, _, _, g, e, _⟩ := hv
    exact ⟨g, e⟩
  clear hv
  simp only [Act.put, List.setIfInBounds_toArray, List.set_cons_succ, List.set_cons_zero]
  refine wpR_alloc (by ((simp only [List.getElem?_toArray, List.getElem?_cons_succ, List.getElem?_cons_zero]; try exact rfl))) _ rfl rfl rfl (fun V v => RgCell.lasts _ _) (fun V V' h => rfl) (fun w' hw' hK => ?_) (fun v hv => ?_)
  · have hXs := (hEW.trans hw').x.size
    unfold opAt
    go_simp
    exact upAt_value ⟨ext_alloc _ _, ⟨_, rfl, hXs, _, heap_alloc_new _ _, rfl⟩, fun _ g hg => by injection hg with hg; exact ⟨hg.symm, by simp⟩⟩
  obtain ⟨g7, rfl⟩ : ∃ g, v = .pointer (some ⟨g, 0, none⟩) := by
    obtain ⟨_, _, _, g, e, _⟩ := hv
    exact ⟨g, e⟩
  clear hv
  simp only [Act.put, List.setIfInBounds_toArray, List.set_cons_succ, List.set_cons_zero]
  refine wpR_late (by ((simp only [List.getElem?_toArray, List.getElem?_cons_succ, List.getElem?_cons_zero]; try exact rfl))) _ rfl rfl (fun V v w' w2 h he => h.ext he) (fun V V' h => by simp only [h 2 (by kernel_rfl), h 11 (by kernel_rfl)]) (fun w' hw' hK hF => ?_) (fun v hv => ?_)
  · obtain ⟨g, e8, hg8, cs, hb8, hs8⟩ := (hK 11 (by kernel_rfl)).2
    obtain rfl := ptrR_inj (show Value.pointer (some ⟨g6, 0, none⟩) = _ from e8)
    refine opAt_list rfl #[] (fun Q hQ => ?_)
    refine wpList_store_box rfl 32 _ _ rfl g6 _ rfl rfl 32 _ hb8 (by kernel_rfl) hs8 (by simp [Value.oneCell']) (fun w2 hb hg => ?_)
    exact hQ _ _ ⟨Exk.of_only hg hb8 hb (by rw [hs8]; rfl) ⟨hg8, _, _, rfl⟩, ⟨g6, rfl, hg8, hb⟩⟩
  clear hv
  simp only [Act.put, List.setIfInBounds_toArray, List.set_cons_succ, List.set_cons_zero]
  refine wpR_lateP (by ((simp only [List.getElem?_toArray, List.getElem?_cons_succ, List.getElem?_cons_zero]; try exact rfl))) _ rfl rfl (fun V v w' w2 h he => ⟨h.1.ext he, h.2.1.ext he, h.2.2⟩) (fun V V' h => by simp only [h 2 (by kernel_rfl), h 11 (by kernel_rfl), h 7 (by kernel_rfl), h 12 (by kernel_rfl)]) (fun w' hw' hK hF hP => ?_) (fun v hv => ?_)
  · obtain ⟨g, e9, hg9, cs, hb9, hs9⟩ := (hK 12 (by kernel_rfl)).2
    obtain rfl := ptrR_inj (show Value.pointer (some ⟨g7, 0, none⟩) = _ from e9)
    have hne : g6 ≠ g7 := fun e => hP 11 12 (by kernel_rfl) (by kernel_rfl) (by decide) (by kernel_rfl) (by kernel_rfl) g6 rfl (by rw [e]; rfl)
    obtain ⟨g', e10, hg10, hb10⟩ := hF
    obtain rfl := ptrR_inj (show Value.pointer (some ⟨g6, 0, none⟩) = _ from e10)
    refine opAt_list rfl #[] (fun Q hQ => ?_)
    refine wpList_store_box rfl 32 _ _ rfl g7 _ rfl rfl 32 _ hb9 (by kernel_rfl) hs9 (by simp [Value.oneCell']) (fun w2 hb hg => ?_)
    exact hQ _ _ ⟨Exk.of_only hg hb9 hb (by rw [hs9]; rfl) ⟨hg9, _, _, rfl⟩, ⟨g6, rfl, hg10, blk_other hb10 hg hne⟩, ⟨g7, rfl, hg9, hb⟩, fun e => hne (ptrR_inj (show Value.pointer (some ⟨g6, 0, none⟩) = Value.pointer (some ⟨g7, 0, none⟩) from e))⟩
  clear hv
  apply wpR_nil
  apply hN
  intro w2 hE' hK hF
  have hx := (hEW.trans hE').x
  have k1 : SOwn 5 w1.heap.size a (.slice A1 a.length c1) w2 := (hK 2).2
  have k2n : SOwnN w1.heap.size (maxB a k) (.slice A1 a.length c1) (.slice A2 (maxB a k).length c2) w2 := (hK 7).2
  have N12 := Lib.hid k2n.1
  have k2 : SOwn 5 w1.heap.size (maxB a k) (.slice A2 (maxB a k).length c2) w2 := k2n.2
  clear k2n
  obtain ⟨s1, s2, s3⟩ := hF
  obtain ⟨_, x1, x2, x3⟩ := s1
  obtain rfl := ptrR_inj (show Value.pointer (some ⟨g6, 0, none⟩) = _ from x1)
  obtain ⟨_, y1, y2, y3⟩ := s2
  obtain rfl := ptrR_inj (show Value.pointer (some ⟨g7, 0, none⟩) = _ from y1)
  have hne : g6 ≠ g7 := fun e => s3 (by rw [e]; rfl)
  have O1 := Lib.hid (Own.mono k1.own (B' := w.heap.size + 3) (by omega))
  have O3 := Lib.hid (Own.mono k2.own (B' := w.heap.size + 3) (by omega))
  have h6 : w2.heap[g6]? = some (.cells #[.slice A1 a.length c1, .slice none 0 0, .bool false] 32) := x3
  have h7 : w2.heap[g7]? = some (.cells #[.slice A2 (maxB a k).length c2, .slice none 0 0, .bool true] 32) := y3
  have H6 := Lib.hid h6
  have H7 := Lib.hid h7
  have hE2 := hX w2 hE'
  replace H0 := Lib.hid (hx.blk H0.out (RgBlk.notLt (by omega)))
  replace H4 := Lib.hid (hx.blk H4.out (RgBlk.notLt (by omega)))
  replace H5 := Lib.hid (hx.blk H5.out (RgBlk.notLt (by omega)))
  have hg6 : w.heap.size + 3 ≤ g6 := by omega
  have hg7 : w.heap.size + 3 ≤ g7 := by omega
  have hw2 : w.heap.size + 3 ≤ w2.heap.size := by have := hx.size; omega
  clear hK hN k1 k2 s3 x1 y1 x3 y3 h6 h7 hx hE hX hEW hE' hW hF0 e0 e1 e2
  have hE := hE2
  clear hE2
  have e2 := cell_of_row w2 w.heap.size 2 _ _ _ H0.out
  simp at e2
  go_wp2_with fail
  refine (fresh0_any (hk.ext hE) rfl).mono ?_
  rintro e w3 ⟨g, rfl, hg, hbk, hE3⟩
  have N13 := Lib.hid (noShare_of O1.out (Nat.le_refl _) (hbk.whole hg (by omega)))
  have N23 := Lib.hid (noShare_of O3.out (Nat.le_refl _) (hbk.whole hg (by omega)))
  have ho := Own.mono (hbk.whole hg (by omega)) (B' := w.heap.size + 3) (by omega)
  have h6 := hE3.blk H6.out
  have d1 := cell_of_row w3 g6 1 _ _ _ h6
  have f1 := frozen_of_row w3 g6 1 _ _ h6
  simp at d1
  have hex := setCell_excR w3 g6 1 (.slice (some ⟨g, 0, none⟩) k.length k.length)
  have h6' := heap_setCell_same w3 g6 1 _ _ (.slice (some ⟨g, 0, none⟩) k.length k.length) h6
  simp only [List.setIfInBounds_toArray, List.set_cons_succ, List.set_cons_zero] at h6'
  have hgi : ∀ q cs, w3.heap[q]? = some (.cells cs 5 (0, 0)) → q ≠ g6 := fun q cs h e => by
    subst e
    rw [h] at h6
    injection h6 with h6
    injection h6 with _ e
    exact absurd e (by decide)
  have hx8 : ∀ {A : Option Addr} {c : Nat} {bs : List UInt8}, Own 5 (w.heap.size + 3) w3 A c bs → Own 5 (w.heap.size + 3) (w3.setCell ⟨g6, 1, none⟩ (.slice (some ⟨g, 0, none⟩) k.length k.length)) A c bs := fun {A c bs} h => by
    refine ⟨h.1, ?_⟩
    rcases h.2 with h0 | ⟨q, cap, cur, hv, hb, hq, r⟩
    · exact .inl h0
    · exact .inr ⟨q, cap, cur, hv, hb, hex.blk hq (hgi q cur hq), r⟩
  have HW := Lib.hid (show Ext w (w3.setCell ⟨g6, 1, none⟩ (.slice (some ⟨g, 0, none⟩) k.length k.length)) ∧ _ ∧ _ ∧ _ ∧ _ ∧ _ ∧ _ ∧ _ from ⟨hex.to_ext (hE.trans hE3) (fun q _ h => by omega), h6', hex.blk (hE3.blk H7.out) (by omega), hex.blk (hE3.blk H4.out) (by omega), hex.blk (hE3.blk H5.out) (by omega), hx8 (O1.out.ext hE3), hx8 (O3.out.ext hE3), hx8 ho⟩)
  clear hex h6' hgi hx8 h6 hE3 hbk ho hE O1 O3 H6 H7 H4 H5 H0
  go_wp2
  refine wp_cut (fun W => Ext w W ∧ W.heap[g6]? = some (.cells #[.slice A1 a.length c1, .slice (some ⟨g, 0, none⟩) k.length k.length, .bool false] 32) ∧ W.heap[g7]? = some (.cells #[.slice A2 (maxB a k).length c2, .slice none 0 0, .bool true] 32) ∧ W.heap[w.heap.size + 1]? = some (.cells #[.slice none 0 0, .slice none 0 0, .bool false] 32) ∧ W.heap[w.heap.size + 1 + 1]? = some (.cells #[.slice none 0 0, .slice none 0 0, .bool false] 32) ∧ Own 5 (w.heap.size + 3) W A1 c1 a ∧ Own 5 (w.heap.size + 3) W A2 c2 (maxB a k) ∧ Own 5 (w.heap.size + 3) W (some ⟨g, 0, none⟩) k.length k) HW.out ?_
  clear HW d1 f1 e2
  rintro w5 ⟨hE, h6, h7, h4, h5, o1, o3, o2⟩
  have H6 := Lib.hid h6
  have H7 := Lib.hid h7
  have H4 := Lib.hid h4
  have H5 := Lib.hid h5
  have O1 := Lib.hid o1
  have O2 := Lib.hid o2
  have O3 := Lib.hid o3
  have O4 := Lib.hid (show Own 5 (w.heap.size + 3) w5 none 0 [] from own_nil _ _ _)
  clear h6 h7 h4 h5 o1 o2 o3
  refine wp_region_rg (Exc (fun k _ => k = w.heap.size + 1 ∨ k = w.heap.size + 1 + 1)) (rel_exc _) (fun w' => w'.heap[w.heap.size + 1]? = some (.cells #[.slice none 0 0, .slice none 0 0, .bool false] 32) ∧ w'.heap[w.heap.size + 1 + 1]? = some (.cells #[.slice none 0 0, .slice none 0 0, .bool false] 32)) [0, 1, 2, 3] (fun _ => none) (fun i => match i with
    | 2 => some fun _ _ w' => w'.heap[w.heap.size + 1]? = some (.cells #[.slice A1 a.length c1, .slice (some ⟨g, 0, none⟩) k.length k.length, .bool false] 32) ∧ w'.heap[w.heap.size + 1 + 1]? = some (.cells #[.slice none 0 0, .slice none 0 0, .bool false] 32)
    | 3 => some fun _ _ w' => w'.heap[w.heap.size + 1]? = some (.cells #[.slice A1 a.length c1, .slice (some ⟨g, 0, none⟩) k.length k.length, .bool false] 32) ∧ w'.heap[w.heap.size + 1 + 1]? = some (.cells #[.slice A2 (maxB a k).length c2, .slice none 0 0, .bool true] 32)
    | _ => none) (fun _ => false) (by kernel_rfl) (by kernel_rfl) (fun _ _ h he => ⟨he.blk h.1, he.blk h.2⟩) ⟨H4.out, H5.out⟩ (fun W N hW hF0 hN => ?_)
  have hEW : Exc (fun k _ => k = w.heap.size + 1 ∨ k = w.heap.size + 1 + 1) w5 W := Exc.of_ext hW
  have x0 : ∀ w', Exc (fun k _ => k = w.heap.size + 1 ∨ k = w.heap.size + 1 + 1) w5 w' → w'.cell? ⟨g6, 0, none⟩ = some (.slice A1 a.length c1) := fun w' h => cell_of_row _ _ _ _ _ _ (h.blk H6.out (by omega))
  have x1 : ∀ w', Exc (fun k _ => k = w.heap.size + 1 ∨ k = w.heap.size + 1 + 1) w5 w' → w'.cell? ⟨g6, 1, none⟩ = some (.slice (some ⟨g, 0, none⟩) k.length k.length) := fun w' h => cell_of_row _ _ _ _ _ _ (h.blk H6.out (by omega))
  have x2 : ∀ w', Exc (fun k _ => k = w.heap.size + 1 ∨ k = w.heap.size + 1 + 1) w5 w' → w'.cell? ⟨g6, 2, none⟩ = some (.bool false) := fun w' h => cell_of_row _ _ _ _ _ _ (h.blk H6.out (by omega))
  have y0 : ∀ w', Exc (fun k _ => k = w.heap.size + 1 ∨ k = w.heap.size + 1 + 1) w5 w' → w'.cell? ⟨g7, 0, none⟩ = some (.slice A2 (maxB a k).length c2) := fun w' h => cell_of_row _ _ _ _ _ _ (h.blk H7.out (by omega))
  have y1 : ∀ w', Exc (fun k _ => k = w.heap.size + 1 ∨ k = w.heap.size + 1 + 1) w5 w' → w'.cell? ⟨g7, 1, none⟩ = some (.slice none 0 0) := fun w' h => cell_of_row _ _ _ _ _ _ (h.blk H7.out (by omega))
  have y2 : ∀ w', Exc (fun k _ => k = w.heap.size + 1 ∨ k = w.heap.size + 1 + 1) w5 w' → w'.cell? ⟨g7, 2, none⟩ = some (.bool true) := fun w' h => cell_of_row _ _ _ _ _ _ (h.blk H7.out (by omega))
  repeat (first | (apply wpR_one; (case ho => (simp only [List.getElem?_toArray, List.getElem?_cons_succ, List.getElem?_cons_zero]; try exact rfl)); (case hw => rfl); (case hl => rfl); (case hsp => rfl); (case he => rfl); (case hv => (intro w' hw'; (try (have hw2 := Ext.trans hEW hw')); (try (have hw3 := Exc.trans hEW hw')); (try (have hw4 := Exk.trans hEW hw')); (try (have hw5 := Mrk.trans hEW hw')); go_simp; exact rfl)); (case hw0 => (first | exact Below.refl _ _ | exact Exc.of_ext (Below.refl _ _) | exact Exk.of_ext (Below.refl _ _) | exact Mrk.of_ext (Below.refl _ _))); simp only [Act.put, List.setIfInBounds_toArray, List.set_cons_succ, List.set_cons_zero]) | (apply wpR_early; (case ho => (simp only [List.getElem?_toArray, List.getElem?_cons_succ, List.getElem?_cons_zero]; try exact rfl)); (case hw => rfl); (case hl => rfl); (case hsp => rfl); (case he => rfl); (case hv => (intro w' hw'; (try have hw2 := Ext.trans hEW hw'); go_simp; exact rfl)); simp only [Act.put, List.setIfInBounds_toArray, List.set_cons_succ, List.set_cons_zero]) | (apply wpR_pass; (case ho => (simp only [List.getElem?_toArray, List.getElem?_cons_succ, List.getElem?_cons_zero]; try exact rfl)); (case hw => rfl); (case hl => rfl); simp only [Act.put, List.setIfInBounds_toArray, List.set_cons_succ, List.set_cons_zero]))
  refine wpR_late (by ((simp only [List.getElem?_toArray, List.getElem?_cons_succ, List.getElem?_cons_zero]; try exact rfl))) _ rfl rfl (fun V v w' w2 h he => ⟨he.blk h.1, he.blk h.2⟩) (fun V V' h => rfl) (fun w' hw' hK hF => ?_) (fun v hv => ?_)
  · refine opAt_list rfl #[] (fun Q hQ => ?_)
    refine wpList_store_box rfl 32 _ _ rfl (w.heap.size + 1) _ rfl rfl 32 _ hF.1 (by kernel_rfl) rfl (by simp [Value.oneCell']) (fun w2 hb hg => ?_)
    exact hQ _ _ ⟨Exc.of_only hg (fun _ _ => .inl rfl), hb, blk_other hF.2 hg (by omega)⟩
  clear hv
  simp only [Act.put, List.setIfInBounds_toArray, List.set_cons_succ, List.set_cons_zero]
  refine wpR_late (by ((simp only [List.getElem?_toArray, List.getElem?_cons_succ, List.getElem?_cons_zero]; try exact rfl))) _ rfl rfl (fun V v w' w2 h he => ⟨he.blk h.1, he.blk h.2⟩) (fun V V' h => rfl) (fun w' hw' hK hF => ?_) (fun v hv => ?_)
  · refine opAt_list rfl #[] (fun Q hQ => ?_)
    refine wpList_store_box rfl 32 _ _ rfl (w.heap.size + 1 + 1) _ rfl rfl 32 _ hF.2 (by kernel_rfl) rfl (by simp [Value.oneCell']) (fun w2 hb hg => ?_)
    exact hQ _ _ ⟨Exc.of_only hg (fun _ _ => .inr rfl), blk_other hF.1 hg (by omega), hb⟩
  clear hv
  apply wpR_nil
  apply hN
  intro w9 hE9 hK hF
  obtain ⟨r1, r2⟩ := hF
  have hx9 := hEW.trans hE9
  have hE' : Ext w w9 := hx9.to_ext hE (fun k _ hk => by omega)
  have o1 := ownsRow_exc8 O1.out hx9 (fun k cs h1 h2 => by omega)
  have o2 := ownsRow_exc8 O2.out hx9 (fun k cs h1 h2 => by omega)
  have o3 := ownsRow_exc8 O3.out hx9 (fun k cs h1 h2 => by omega)
  have o4 := ownsRow_exc8 O4.out hx9 (fun k cs h1 h2 => by omega)
  have K1 := Lib.hid (o1.mono (B' := w.heap.size) (by omega))
  have K2 := Lib.hid (o2.mono (B' := w.heap.size) (by omega))
  have K3 := Lib.hid (o3.mono (B' := w.heap.size) (by omega))
  have K4 := Lib.hid (o4.mono (B' := w.heap.size) (by omega))
  clear hK hN x0 x1 x2 y0 y1 y2 hEW hE9 hx9 hW hF0 o1 o2 o3 o4
  go_wp2
  exact bodyPost_ret (results_rr rfl _ _ _ _ _ _ _ _ _ _ _ _ rfl r1 Try.underlying32 rfl (by kernel_rfl) rfl r2 Try.underlying32 rfl (by kernel_rfl)) rfl ⟨_, _, _, _, _, _, _, _, _, _, rfl, rfl, rfl, K1.out, K2.out, K3.out, K4.out, four_apart N13.out N12.out (noShare_nil _) N23.out.symm (noShare_nil _) (noShare_nil _), hE'⟩
set_option maxRecDepth 100000 in
set_option maxHeartbeats 2000000 in
theorem splitq_false {aA aB C : Option Addr} {ac ad f n : Nat} {a ah k : List UInt8} {w : World} (ha : Sl w aA ac a) (hah : Sl w aB ad ah) (hk : Sl w C f k) (hn : n = k.length) :
    Calls Try.prog 32 #[.agg #[.slice aA a.length ac, .slice aB ah.length ad, .bool false], .slice C n f] w fun e w' => ∃ A c B d A2 c2 B2 d2 r s, r = lowB ⟨a, ah, false⟩ k ∧ s = highB ⟨a, ah, false⟩ k ∧
      e = .returned (.tuple #[.agg #[.slice A r.lo.length c, .slice B r.hi.length d, .bool r.op], .agg #[.slice A2 s.lo.length c2, .slice B2 s.hi.length d2, .bool s.op]]) ∧
      Own 5 w.heap.size w' A c r.lo ∧ Own 5 w.heap.size w' B d r.hi ∧ Own 5 w.heap.size w' A2 c2 s.lo ∧ Own 5 w.heap.size w' B2 d2 s.hi ∧ [Value.slice A r.lo.length c, .slice B r.hi.length d, .slice A2 s.lo.length c2, .slice B2 s.hi.length d2].Pairwise NoShare ∧ Ext w w' := by
  subst hn
  have hla := ha.len
  have hlh := hah.len
  have hlk := hk.len
  go_enter Try.func32, Try.ntmps32
  go_wp2
  refine wp_cut (fun W => Ext w W ∧ W.heap[w.heap.size]? = some (.cells #[.slice aA a.length ac, .slice aB ah.length ad, .bool false] 32) ∧ W.heap[w.heap.size + 1]? = some (.cells #[.slice none 0 0, .slice none 0 0, .bool false] 32) ∧ W.heap[w.heap.size + 1 + 1]? = some (.cells #[.slice none 0 0, .slice none 0 0, .bool false] 32)) ⟨((ext_alloc _ _).trans (ext_alloc _ _)).trans (ext_alloc _ _), (ext_alloc _ _).blk (heap_alloc2_old _ _ _), (ext_alloc _ _).blk (heap_alloc2_new _ _ _), by rw [show w.heap.size + 1 + 1 = ((w.alloc _).alloc _).heap.size by simp]; exact heap_alloc_new _ _⟩ ?_
  rintro w1 ⟨hE, b0, b1, b2⟩
  have H0 := Lib.hid b0
  have H4 := Lib.hid b1
  have H5 := Lib.hid b2
  have hw1 : w.heap.size + 1 + 1 < w1.heap.size := (Array.getElem?_eq_some_iff.1 b2).1
  clear b0 b1 b2
  refine wp_region_rg (Exk (RgBlk w1.heap.size)) (rel_exk _) (fun _ => True) [0, 1, 2, 3, 4, 5, 6, 7, 8, 9, 10, 11, 12, 13, 14] (fun i => match i with
    | 2 => some fun V => SOwn 5 w1.heap.size a
    | 7 => some fun V => SOwnN w1.heap.size (maxB a k) (V 2)
    | 11 => some fun V => RgCell w1.heap.size
    | 12 => some fun V => RgCell w1.heap.size
    | _ => none) (fun i => match i with
    | 13 => some fun V _ => RgAt w1.heap.size (V 2) (.slice none 0 0) (.bool false) (V 11)
    | 14 => some fun V _ w' => RgAt w1.heap.size (V 2) (.slice none 0 0) (.bool false) (V 11) w' ∧ RgAt w1.heap.size (V 7) (.slice none 0 0) (.bool false) (V 12) w' ∧ V 11 ≠ V 12
    | _ => none) (fun _ => false) (by kernel_rfl) (by kernel_rfl) (fun _ _ h he => trivial) trivial (fun W N hW hF0 hN => ?_)
  have hEW : Exk (RgBlk w1.heap.size) w1 W := Exk.of_ext hW
  have hX : ∀ w', Exk (RgBlk w1.heap.size) W w' → Ext w w' := fun w' h => (Exk.trans hEW h).x.to_ext hE (fun k _ hk => by have := hk.1; omega)
  have e0 : ∀ w', Exk (RgBlk w1.heap.size) w1 w' → w'.cell? ⟨w.heap.size, 0, none⟩ = some (.slice aA a.length ac) := fun w' h => cell_of_row _ _ _ _ _ _ (h.x.blk H0.out (RgBlk.notLt (by omega)))
  have e1 : ∀ w', Exk (RgBlk w1.heap.size) w1 w' → w'.cell? ⟨w.heap.size, 1, none⟩ = some (.slice aB ah.length ad) := fun w' h => cell_of_row _ _ _ _ _ _ (h.x.blk H0.out (RgBlk.notLt (by omega)))
  have e2 : ∀ w', Exk (RgBlk w1.heap.size) w1 w' → w'.cell? ⟨w.heap.size, 2, none⟩ = some (.bool false) := fun w' h => cell_of_row _ _ _ _ _ _ (h.x.blk H0.out (RgBlk.notLt (by omega)))
  repeat (first | (apply wpR_one; (case ho => (simp only [List.getElem?_toArray, List.getElem?_cons_succ, List.getElem?_cons_zero]; try exact rfl)); (case hw => rfl); (case hl => rfl); (case hsp => rfl); (case he => rfl); (case hv => (intro w' hw'; (try (have hw2 := Ext.trans hEW hw')); (try (have hw3 := Exc.trans hEW hw')); (try (have hw4 := Exk.trans hEW hw')); (try (have hw5 := Mrk.trans hEW hw')); go_simp; exact rfl)); (case hw0 => (first | exact Below.refl _ _ | exact Exc.of_ext (Below.refl _ _) | exact Exk.of_ext (Below.refl _ _) | exact Mrk.of_ext (Below.refl _ _))); simp only [Act.put, List.setIfInBounds_toArray, List.set_cons_succ, List.set_cons_zero]) | (apply wpR_early; (case ho => (simp only [List.getElem?_toArray, List.getElem?_cons_succ, List.getElem?_cons_zero]; try exact rfl)); (case hw => rfl); (case hl => rfl); (case hsp => rfl); (case he => rfl); (case hv => (intro w' hw'; (try have hw2 := Ext.trans hEW hw'); go_simp; exact rfl)); simp only [Act.put, List.setIfInBounds_toArray, List.set_cons_succ, List.set_cons_zero]) | (apply wpR_pass; (case ho => (simp only [List.getElem?_toArray, List.getElem?_cons_succ, List.getElem?_cons_zero]; try exact rfl)); (case hw => rfl); (case hl => rfl); simp only [Act.put, List.setIfInBounds_toArray, List.set_cons_succ, List.set_cons_zero]))
  refine wpR_new (by ((simp only [List.getElem?_toArray, List.getElem?_cons_succ, List.getElem?_cons_zero]; try exact rfl))) _ rfl rfl rfl (fun V v => SOwn.lastsRg _ _) (fun V V' h => rfl) (fun w' hw' hK => ?_) (fun v hv => ?_)
  · have HX := Lib.hid (hX w' hw')
    have hs := (hEW.trans hw').x.size
    clear hK
    unfold opAt; go_simp; refine upAt_enter ?_
    refine (fresh0_any (ha.ext HX.out) rfl).mono ?_
    rintro e w9 ⟨g, rfl, hg, hbk, hE9⟩
    exact ⟨_, rfl, hE9, _, _, rfl, (hbk.whole hg (by omega)).mono hs⟩
  obtain ⟨A1, c1, rfl⟩ : ∃ A c, v = .slice A a.length c := by
    obtain ⟨_, _, _, A, c, h, _⟩ := hv
    exact ⟨A, c, h⟩
  clear hv
  simp only [Act.put, List.setIfInBounds_toArray, List.set_cons_succ, List.set_cons_zero]
  repeat (first | (apply wpR_one; (case ho => (simp only [List.getElem?_toArray, List.getElem?_cons_succ, List.getElem?_cons_zero]; try exact rfl)); (case hw => rfl); (case hl => rfl); (case hsp => rfl); (case he => rfl); (case hv => (intro w' hw'; (try (have hw2 := Ext.trans hEW hw')); (try (have hw3 := Exc.trans hEW hw')); (try (have hw4 := Exk.trans hEW hw')); (try (have hw5 := Mrk.trans hEW hw')); go_simp; exact rfl)); (case hw0 => (first | exact Below.refl _ _ | exact Exc.of_ext (Below.refl _ _) | exact Exk.of_ext (Below.refl _ _) | exact Mrk.of_ext (Below.refl _ _))); simp only [Act.put, List.setIfInBounds_toArray, List.set_cons_succ, List.set_cons_zero]) | (apply wpR_early; (case ho => (simp only [List.getElem?_toArray, List.getElem?_cons_succ, List.getElem?_cons_zero]; try exact rfl)); (case hw => rfl); (case hl => rfl); (case hsp => rfl); (case he => rfl); (case hv => (intro w' hw'; (try have hw2 := Ext.trans hEW hw'); go_simp; exact rfl)); simp only [Act.put, List.setIfInBounds_toArray, List.set_cons_succ, List.set_cons_zero]) | (apply wpR_pass; (case ho => (simp only [List.getElem?_toArray, List.getElem?_cons_succ, List.getElem?_cons_zero]; try exact rfl)); (case hw => rfl); (case hl => rfl); simp only [Act.put, List.setIfInBounds_toArray, List.set_cons_succ, List.set_cons_zero]))
  refine wpR_new (by ((simp only [List.getElem?_toArray, List.getElem?_cons_succ, List.getElem?_cons_zero]; try exact rfl))) _ rfl rfl rfl (fun V v => SOwnN.lastsRg _ _ _) (fun V V' h => by simp only [h 2 (by kernel_rfl)]) (fun w' hw' hK => ?_) (fun v hv => ?_)
  · have HX := Lib.hid (hX w' hw')
    have hs := (hEW.trans hw').x.size
    have K2 := Lib.hid (hK 2 (by kernel_rfl)).2
    clear hK
    unfold opAt; go_simp; refine upAt_enter ?_
    refine (more_any (ha.ext HX.out) (hk.ext HX.out) rfl rfl).mono ?_
    rintro e w9 ⟨A, c, rfl, ho, hE9⟩
    exact ⟨_, rfl, hE9, SOwn.noShare K2.out (Nat.le_refl _) ho, A, c, rfl, ho.mono hs⟩
  obtain ⟨A2, c2, rfl⟩ : ∃ A c, v = .slice A (maxB a k).length c := by
    obtain ⟨_, _, _, _, A, c, h, _⟩ := hv
    exact ⟨A, c, h⟩
  clear hv
  simp only [Act.put, List.setIfInBounds_toArray, List.set_cons_succ, List.set_cons_zero]
  repeat (first | (apply wpR_one; (case ho => (simp only [List.getElem?_toArray, List.getElem?_cons_succ, List.getElem?_cons_zero]; try exact rfl)); (case hw => rfl); (case hl => rfl); (case hsp => rfl); (case he => rfl); (case hv => (intro w' hw'; (try (have hw2 := Ext.trans hEW hw')); (try (have hw3 := Exc.trans hEW hw')); (try (have hw4 := Exk.trans hEW hw')); (try (have hw5 := Mrk.trans hEW hw')); go_simp; exact rfl)); (case hw0 => (first | exact Below.refl _ _ | exact Exc.of_ext (Below.refl _ _) | exact Exk.of_ext (Below.refl _ _) | exact Mrk.of_ext (Below.refl _ _))); simp only [Act.put, List.setIfInBounds_toArray, List.set_cons_succ, List.set_cons_zero]) | (apply wpR_early; (case ho => (simp only [List.getElem?_toArray, List.getElem?_cons_succ, List.getElem?_cons_zero]; try exact rfl)); (case hw => rfl); (case hl => rfl); (case hsp => rfl); (case he => rfl); (case hv => (intro w' hw'; (try have hw2 := Ext.trans hEW hw'); go_simp; exact rfl)); simp only [Act.put, List.setIfInBounds_toArray, List.set_cons_succ, List.set_cons_zero]) | (apply wpR_pass; (case ho => (simp only [List.getElem?_toArray, List.getElem?_cons_succ, List.getElem?_cons_zero]; try exact rfl)); (case hw => rfl); (case hl => rfl); simp only [Act.put, List.setIfInBounds_toArray, List.set_cons_succ, List.set_cons_zero]))
  refine wpR_alloc (by ((simp only [List.getElem?_toArray, List.getElem?_cons_succ, List.getElem?_cons_zero]; try exact rfl))) _ rfl rfl rfl (fun V v => RgCell.lasts _ _) (fun V V' h => rfl) (fun w' hw' hK => ?_) (fun v hv => ?_)
  · have hXs := (hEW.trans hw').x.size
    unfold opAt
    go_simp
    exact upAt_value ⟨ext_alloc _ _, ⟨_, rfl, hXs, _, heap_alloc_new _ _, rfl⟩, fun _ g hg => by injection hg with hg; exact ⟨hg.symm, by simp⟩⟩
  obtain ⟨g6, rfl⟩ : ∃ g, v = .pointer (some ⟨g, 0, none⟩) := by
    obtain ⟨_, _, _, g, e, _⟩ := hv
    exact ⟨g, e⟩
  clear hv
  simp only [Act.put, List.setIfInBounds_toArray, List.set_cons_succ, List.set_cons_zero]
  refine wpR_alloc (by ((simp only [List.getElem?_toArray, List.getElem?_cons_succ, List.getElem?_cons_zero]; try exact rfl))) _ rfl rfl rfl (fun V v => RgCell.lasts _ _) (fun V V' h => rfl) (fun w' hw' hK => ?_) (fun v hv => ?_)
  · have hXs := (hEW.trans hw').x.size
    unfold opAt
    go_simp
    exact upAt_value ⟨ext_alloc _ _, ⟨_, rfl, hXs, _, heap_alloc_new _ _, rfl⟩, fun _ g hg => by injection hg with hg; exact ⟨hg.symm, by simp⟩⟩
  obtain ⟨g7, rfl⟩ : ∃ g, v = .pointer (some ⟨g, 0, none⟩) := by
    obtain ⟨_, _, _, g, e, _⟩ := hv
    exact ⟨g, e⟩
  clear hv
  simp only [Act.put, List.setIfInBounds_toArray, List.set_cons_succ, List.set_cons_zero]
  refine wpR_late (by ((simp only [List.getElem?_toArray, List.getElem?_cons_succ, List.getElem?_cons_zero]; try exact rfl))) _ rfl rfl (fun V v w' w2 h he => h.ext he) (fun V V' h => by simp only [h 2 (by kernel_rfl), h 11 (by kernel_rfl)]) (fun w' hw' hK hF => ?_) (fun v hv => ?_)
  · obtain ⟨g, e8, hg8, cs, hb8, hs8⟩ := (hK 11 (by kernel_rfl)).2
    obtain rfl := ptrR_inj (show Value.pointer (some ⟨g6, 0, none⟩) = _ from e8)
    refine opAt_list rfl #[] (fun Q hQ => ?_)
    refine wpList_store_box rfl 32 _ _ rfl g6 _ rfl rfl 32 _ hb8 (by kernel_rfl) hs8 (by simp [Value.oneCell']) (fun w2 hb hg => ?_)
    exact hQ _ _ ⟨Exk.of_only hg hb8 hb (by rw [hs8]; rfl) ⟨hg8, _, _, rfl⟩, ⟨g6, rfl, hg8, hb⟩⟩
  clear hv
  simp only [Act.put, List.setIfInBounds_toArray, List.set_cons_succ, List.set_cons_zero]
  refine wpR_lateP (by ((simp only [List.getElem?_toArray, List.getElem?_cons_succ, List.getElem?_cons_zero]; try exact rfl))) _ rfl rfl (fun V v w' w2 h he => ⟨h.1.ext he, h.2.1.ext he, h.2.2⟩) (fun V V' h => by simp only [h 2 (by kernel_rfl), h 11 (by kernel_rfl), h 7 (by kernel_rfl), h 12 (by kernel_rfl)]) (fun w' hw' hK hF hP => ?_) (fun v hv => ?_)
  · obtain ⟨g, e9, hg9, cs, hb9, hs9⟩ := (hK 12 (by kernel_rfl)).2
    obtain rfl := ptrR_inj (show Value.pointer (some ⟨g7, 0, none⟩) = _ from e9)
    have hne : g6 ≠ g7 := fun e => hP 11 12 (by kernel_rfl) (by kernel_rfl) (by decide) (by kernel_rfl) (by kernel_rfl) g6 rfl (by rw [e]; rfl)
    obtain ⟨g', e10, hg10, hb10⟩ := hF
    obtain rfl := ptrR_inj (show Value.pointer (some ⟨g6, 0, none⟩) = _ from e10)
    refine opAt_list rfl #[] (fun Q hQ => ?_)
    refine wpList_store_box rfl 32 _ _ rfl g7 _ rfl rfl 32 _ hb9 (by kernel_rfl) hs9 (by simp [Value.oneCell']) (fun w2 hb hg => ?_)
    exact hQ _ _ ⟨Exk.of_only hg hb9 hb (by rw [hs9]; rfl) ⟨hg9, _, _, rfl⟩, ⟨g6, rfl, hg10, blk_other hb10 hg hne⟩, ⟨g7, rfl, hg9, hb⟩, fun e => hne (ptrR_inj (show Value.pointer (some ⟨g6, 0, none⟩) = Value.pointer (some ⟨g7, 0, none⟩) from e))⟩
  clear hv
  apply wpR_nil
  apply hN
  intro w2 hE' hK hF
  have hx := (hEW.trans hE').x
  have k1 : SOwn 5 w1.heap.size a (.slice A1 a.length c1) w2 := (hK 2).2
  have k2n : SOwnN w1.heap.size (maxB a k) (.slice A1 a.length c1) (.slice A2 (maxB a k).length c2) w2 := (hK 7).2
  have N12 := Lib.hid k2n.1
  have k2 : SOwn 5 w1.heap.size (maxB a k) (.slice A2 (maxB a k).length c2) w2 := k2n.2
  clear k2n
  obtain ⟨s1, s2, s3⟩ := hF
  obtain ⟨_, x1, x2, x3⟩ := s1
  obtain rfl := ptrR_inj (show Value.pointer (some ⟨g6, 0, none⟩) = _ from x1)
  obtain ⟨_, y1, y2, y3⟩ := s2
  obtain rfl := ptrR_inj (show Value.pointer (some ⟨g7, 0, none⟩) = _ from y1)
  have hne : g6 ≠ g7 := fun e => s3 (by rw [e]; rfl)
  have O1 := Lib.hid (Own.mono k1.own (B' := w.heap.size + 3) (by omega))
  have O3 := Lib.hid (Own.mono k2.own (B' := w.heap.size + 3) (by omega))
  have h6 : w2.heap[g6]? = some (.cells #[.slice A1 a.length c1, .slice none 0 0, .bool false] 32) := x3
  have h7 : w2.heap[g7]? = some (.cells #[.slice A2 (maxB a k).length c2, .slice none 0 0, .bool false] 32) := y3
  have H6 := Lib.hid h6
  have H7 := Lib.hid h7
  have hE2 := hX w2 hE'
  replace H0 := Lib.hid (hx.blk H0.out (RgBlk.notLt (by omega)))
  replace H4 := Lib.hid (hx.blk H4.out (RgBlk.notLt (by omega)))
  replace H5 := Lib.hid (hx.blk H5.out (RgBlk.notLt (by omega)))
  have hg6 : w.heap.size + 3 ≤ g6 := by omega
  have hg7 : w.heap.size + 3 ≤ g7 := by omega
  have hw2 : w.heap.size + 3 ≤ w2.heap.size := by have := hx.size; omega
  clear hK hN k1 k2 s3 x1 y1 x3 y3 h6 h7 hx hE hX hEW hE' hW hF0 e0 e1 e2
  have hE := hE2
  clear hE2
  have e2 := cell_of_row w2 w.heap.size 2 _ _ _ H0.out
  simp at e2
  go_wp2
  clear e2
  have hR8 : ∀ q cs, w2.heap[q]? = some (.cells cs 5 (0, 0)) → ¬ (q = g6 ∨ q = g7) := fun q cs h e => by
    rcases e with e | e
    · subst e
      rw [H6.out] at h
      injection h with h
      injection h with _ e
      exact absurd e (by decide)
    · subst e
      rw [H7.out] at h
      injection h with h
      injection h with _ e
      exact absurd e (by decide)
  refine wp_region_rg (Exc (fun k _ => k = g6 ∨ k = g7)) (rel_exc _) (fun w' => w'.heap[g6]? = some (.cells #[.slice A1 a.length c1, .slice none 0 0, .bool false] 32) ∧ w'.heap[g7]? = some (.cells #[.slice A2 (maxB a k).length c2, .slice none 0 0, .bool false] 32)) [0, 1, 2, 3, 4, 5, 6, 7, 8, 9, 10] (fun i => match i with
    | 3 => some fun V => SOwn 5 w2.heap.size (minB ah k)
    | 6 => some fun V => SOwnN w2.heap.size ah (V 3)
    | _ => none) (fun i => match i with
    | 8 => some fun V _ w' => w'.heap[g6]? = some (.cells #[.slice A1 a.length c1, V 3, .bool false] 32) ∧ w'.heap[g7]? = some (.cells #[.slice A2 (maxB a k).length c2, .slice none 0 0, .bool false] 32)
    | 10 => some fun V _ w' => w'.heap[g6]? = some (.cells #[.slice A1 a.length c1, V 3, .bool false] 32) ∧ w'.heap[g7]? = some (.cells #[.slice A2 (maxB a k).length c2, V 6, .bool false] 32)
    | _ => none) (fun _ => false) (by kernel_rfl) (by kernel_rfl) (fun _ _ h he => ⟨he.blk h.1, he.blk h.2⟩) ⟨H6.out, H7.out⟩ (fun W N hW hF0 hN => ?_)
  have hEW : Exc (fun k _ => k = g6 ∨ k = g7) w2 W := Exc.of_ext hW
  have hX : ∀ w', Exc (fun k _ => k = g6 ∨ k = g7) W w' → Ext w w' := fun w' h => (Exc.trans hEW h).to_ext hE (fun k _ hk => by omega)
  have hl6 : g6 < w2.heap.size := (Array.getElem?_eq_some_iff.1 H6.out).1
  have hl7 : g7 < w2.heap.size := (Array.getElem?_eq_some_iff.1 H7.out).1
  have hLS : ∀ (bs : List UInt8) (v : Value), Lasts (Exc (fun k _ => k = g6 ∨ k = g7)) (SOwn 5 w2.heap.size bs v) := fun bs v x y ⟨A, c, hv, ho⟩ hx => ⟨A, c, hv, ownsRow_exc8 ho hx (fun k cs h1 h2 => by omega)⟩
  have hLN : ∀ (bs : List UInt8) (u v : Value), Lasts (Exc (fun k _ => k = g6 ∨ k = g7)) (SOwnN w2.heap.size bs u v) := fun bs u v x y h hx => ⟨h.1, hLS bs v x y h.2 hx⟩
  have e0 : ∀ w', Exc (fun k _ => k = g6 ∨ k = g7) w2 w' → w'.cell? ⟨w.heap.size, 0, none⟩ = some (.slice aA a.length ac) := fun w' h => cell_of_row _ _ _ _ _ _ (h.blk H0.out (by omega))
  have e1 : ∀ w', Exc (fun k _ => k = g6 ∨ k = g7) w2 w' → w'.cell? ⟨w.heap.size, 1, none⟩ = some (.slice aB ah.length ad) := fun w' h => cell_of_row _ _ _ _ _ _ (h.blk H0.out (by omega))
  have e2 : ∀ w', Exc (fun k _ => k = g6 ∨ k = g7) w2 w' → w'.cell? ⟨w.heap.size, 2, none⟩ = some (.bool false) := fun w' h => cell_of_row _ _ _ _ _ _ (h.blk H0.out (by omega))
  repeat (first | (apply wpR_one; (case ho => (simp only [List.getElem?_toArray, List.getElem?_cons_succ, List.getElem?_cons_zero]; try exact rfl)); (case hw => rfl); (case hl => rfl); (case hsp => rfl); (case he => rfl); (case hv => (intro w' hw'; (try (have hw2 := Ext.trans hEW hw')); (try (have hw3 := Exc.trans hEW hw')); (try (have hw4 := Exk.trans hEW hw')); (try (have hw5 := Mrk.trans hEW hw')); go_simp; exact rfl)); (case hw0 => (first | exact Below.refl _ _ | exact Exc.of_ext (Below.refl _ _) | exact Exk.of_ext (Below.refl _ _) | exact Mrk.of_ext (Below.refl _ _))); simp only [Act.put, List.setIfInBounds_toArray, List.set_cons_succ, List.set_cons_zero]) | (apply wpR_early; (case ho => (simp only [List.getElem?_toArray, List.getElem?_cons_succ, List.getElem?_cons_zero]; try exact rfl)); (case hw => rfl); (case hl => rfl); (case hsp => rfl); (case he => rfl); (case hv => (intro w' hw'; (try have hw2 := Ext.trans hEW hw'); go_simp; exact rfl)); simp only [Act.put, List.setIfInBounds_toArray, List.set_cons_succ, List.set_cons_zero]) | (apply wpR_pass; (case ho => (simp only [List.getElem?_toArray, List.getElem?_cons_succ, List.getElem?_cons_zero]; try exact rfl)); (case hw => rfl); (case hl => rfl); simp only [Act.put, List.setIfInBounds_toArray, List.set_cons_succ, List.set_cons_zero]))
  refine wpR_new (by ((simp only [List.getElem?_toArray, List.getElem?_cons_succ, List.getElem?_cons_zero]; try exact rfl))) _ rfl rfl rfl (fun V v => hLS _ _) (fun V V' h => rfl) (fun w' hw' hK => ?_) (fun v hv => ?_)
  · have HX := Lib.hid (hX w' hw')
    have hs := (hEW.trans hw').size
    clear hK
    unfold opAt; go_simp; refine upAt_enter ?_
    refine (less_any (hah.ext HX.out) (hk.ext HX.out) rfl rfl).mono ?_
    rintro e w9 ⟨A, c, rfl, ho, hE9⟩
    exact ⟨_, rfl, hE9, A, c, rfl, ho.mono hs⟩
  obtain ⟨A5, c5, rfl⟩ : ∃ A c, v = .slice A (minB ah k).length c := by
    obtain ⟨_, _, _, A, c, h, _⟩ := hv
    exact ⟨A, c, h⟩
  clear hv
  simp only [Act.put, List.setIfInBounds_toArray, List.set_cons_succ, List.set_cons_zero]
  repeat (first | (apply wpR_one; (case ho => (simp only [List.getElem?_toArray, List.getElem?_cons_succ, List.getElem?_cons_zero]; try exact rfl)); (case hw => rfl); (case hl => rfl); (case hsp => rfl); (case he => rfl); (case hv => (intro w' hw'; (try (have hw2 := Ext.trans hEW hw')); (try (have hw3 := Exc.trans hEW hw')); (try (have hw4 := Exk.trans hEW hw')); (try (have hw5 := Mrk.trans hEW hw')); go_simp; exact rfl)); (case hw0 => (first | exact Below.refl _ _ | exact Exc.of_ext (Below.refl _ _) | exact Exk.of_ext (Below.refl _ _) | exact Mrk.of_ext (Below.refl _ _))); simp only [Act.put, List.setIfInBounds_toArray, List.set_cons_succ, List.set_cons_zero]) | (apply wpR_early; (case ho => (simp only [List.getElem?_toArray, List.getElem?_cons_succ, List.getElem?_cons_zero]; try exact rfl)); (case hw => rfl); (case hl => rfl); (case hsp => rfl); (case he => rfl); (case hv => (intro w' hw'; (try have hw2 := Ext.trans hEW hw'); go_simp; exact rfl)); simp only [Act.put, List.setIfInBounds_toArray, List.set_cons_succ, List.set_cons_zero]) | (apply wpR_pass; (case ho => (simp only [List.getElem?_toArray, List.getElem?_cons_succ, List.getElem?_cons_zero]; try exact rfl)); (case hw => rfl); (case hl => rfl); simp only [Act.put, List.setIfInBounds_toArray, List.set_cons_succ, List.set_cons_zero]))
  refine wpR_new (by ((simp only [List.getElem?_toArray, List.getElem?_cons_succ, List.getElem?_cons_zero]; try exact rfl))) _ rfl rfl rfl (fun V v => hLN _ _ _) (fun V V' h => by simp only [h 3 (by kernel_rfl)]) (fun w' hw' hK => ?_) (fun v hv => ?_)
  · have HX := Lib.hid (hX w' hw')
    have hs := (hEW.trans hw').size
    have K2 := Lib.hid (hK 3 (by kernel_rfl)).2
    clear hK
    unfold opAt; go_simp; refine upAt_enter ?_
    refine (fresh0_any (hah.ext HX.out) rfl).mono ?_
    rintro e w9 ⟨g, rfl, hg, hbk, hE9⟩
    exact ⟨_, rfl, hE9, SOwn.noShare K2.out (Nat.le_refl _) (hbk.whole hg (by omega)), _, _, rfl, (hbk.whole hg (by omega)).mono hs⟩
  obtain ⟨A6, c6, rfl⟩ : ∃ A c, v = .slice A ah.length c := by
    obtain ⟨_, _, _, _, A, c, h, _⟩ := hv
    exact ⟨A, c, h⟩
  clear hv
  simp only [Act.put, List.setIfInBounds_toArray, List.set_cons_succ, List.set_cons_zero]
  repeat (first | (apply wpR_one; (case ho => (simp only [List.getElem?_toArray, List.getElem?_cons_succ, List.getElem?_cons_zero]; try exact rfl)); (case hw => rfl); (case hl => rfl); (case hsp => rfl); (case he => rfl); (case hv => (intro w' hw'; (try (have hw2 := Ext.trans hEW hw')); (try (have hw3 := Exc.trans hEW hw')); (try (have hw4 := Exk.trans hEW hw')); (try (have hw5 := Mrk.trans hEW hw')); go_simp; exact rfl)); (case hw0 => (first | exact Below.refl _ _ | exact Exc.of_ext (Below.refl _ _) | exact Exk.of_ext (Below.refl _ _) | exact Mrk.of_ext (Below.refl _ _))); simp only [Act.put, List.setIfInBounds_toArray, List.set_cons_succ, List.set_cons_zero]) | (apply wpR_early; (case ho => (simp only [List.getElem?_toArray, List.getElem?_cons_succ, List.getElem?_cons_zero]; try exact rfl)); (case hw => rfl); (case hl => rfl); (case hsp => rfl); (case he => rfl); (case hv => (intro w' hw'; (try have hw2 := Ext.trans hEW hw'); go_simp; exact rfl)); simp only [Act.put, List.setIfInBounds_toArray, List.set_cons_succ, List.set_cons_zero]) | (apply wpR_pass; (case ho => (simp only [List.getElem?_toArray, List.getElem?_cons_succ, List.getElem?_cons_zero]; try exact rfl)); (case hw => rfl); (case hl => rfl); simp only [Act.put, List.setIfInBounds_toArray, List.set_cons_succ, List.set_cons_zero]))
  refine wpR_late (by ((simp only [List.getElem?_toArray, List.getElem?_cons_succ, List.getElem?_cons_zero]; try exact rfl))) _ rfl rfl (fun V v w' w2 h he => ⟨he.blk h.1, he.blk h.2⟩) (fun V V' h => by simp only [h 3 (by kernel_rfl)]) (fun w' hw' hK hF => ?_) (fun v hv => ?_)
  · obtain ⟨hF1, hF2⟩ := hF
    have d1 := cell_of_row w' g6 1 _ _ _ hF1
    have f1 := frozen_of_row w' g6 1 _ _ hF1
    simp at d1
    have hn := heap_setCell_same w' g6 1 _ _ (.slice A5 (minB ah k).length c5) hF1
    simp only [List.setIfInBounds_toArray, List.set_cons_succ, List.set_cons_zero] at hn
    have hex := setCell_excR w' g6 1 (.slice A5 (minB ah k).length c5)
    have HN := Lib.hid hn
    have HX := Lib.hid hex
    have HO := Lib.hid (hex.blk hF2 (fun e => hne e.symm))
    clear hF1 hF2 hn hex hK e0 e1 e2
    unfold opAt
    go_simp
    exact upAt_skip ⟨⟨HX.out.os, HX.out.tape, HX.out.output, HX.out.size, fun q o hq hnq => HX.out.blk hq (fun e => hnq (.inl e))⟩, HN.out, HO.out⟩
  clear hv
  simp only [Act.put, List.setIfInBounds_toArray, List.set_cons_succ, List.set_cons_zero]
  repeat (first | (apply wpR_one; (case ho => (simp only [List.getElem?_toArray, List.getElem?_cons_succ, List.getElem?_cons_zero]; try exact rfl)); (case hw => rfl); (case hl => rfl); (case hsp => rfl); (case he => rfl); (case hv => (intro w' hw'; (try (have hw2 := Ext.trans hEW hw')); (try (have hw3 := Exc.trans hEW hw')); (try (have hw4 := Exk.trans hEW hw')); (try (have hw5 := Mrk.trans hEW hw')); go_simp; exact rfl)); (case hw0 => (first | exact Below.refl _ _ | exact Exc.of_ext (Below.refl _ _) | exact Exk.of_ext (Below.refl _ _) | exact Mrk.of_ext (Below.refl _ _))); simp only [Act.put, List.setIfInBounds_toArray, List.set_cons_succ, List.set_cons_zero]) | (apply wpR_early; (case ho => (simp only [List.getElem?_toArray, List.getElem?_cons_succ, List.getElem?_cons_zero]; try exact rfl)); (case hw => rfl); (case hl => rfl); (case hsp => rfl); (case he => rfl); (case hv => (intro w' hw'; (try have hw2 := Ext.trans hEW hw'); go_simp; exact rfl)); simp only [Act.put, List.setIfInBounds_toArray, List.set_cons_succ, List.set_cons_zero]) | (apply wpR_pass; (case ho => (simp only [List.getElem?_toArray, List.getElem?_cons_succ, List.getElem?_cons_zero]; try exact rfl)); (case hw => rfl); (case hl => rfl); simp only [Act.put, List.setIfInBounds_toArray, List.set_cons_succ, List.set_cons_zero]))
  refine wpR_late (by ((simp only [List.getElem?_toArray, List.getElem?_cons_succ, List.getElem?_cons_zero]; try exact rfl))) _ rfl rfl (fun V v w' w2 h he => ⟨he.blk h.1, he.blk h.2⟩) (fun V V' h => by simp only [h 3 (by kernel_rfl), h 6 (by kernel_rfl)]) (fun w' hw' hK hF => ?_) (fun v hv => ?_)
  · obtain ⟨hF1, hF2⟩ := hF
    have d1 := cell_of_row w' g7 1 _ _ _ hF2
    have f1 := frozen_of_row w' g7 1 _ _ hF2
    simp at d1
    have hn := heap_setCell_same w' g7 1 _ _ (.slice A6 ah.length c6) hF2
    simp only [List.setIfInBounds_toArray, List.set_cons_succ, List.set_cons_zero] at hn
    have hex := setCell_excR w' g7 1 (.slice A6 ah.length c6)
    have HN := Lib.hid hn
    have HX := Lib.hid hex
    have HO := Lib.hid (hex.blk hF1 (fun e => hne e))
    clear hF1 hF2 hn hex hK e0 e1 e2
    unfold opAt
    go_simp
    exact upAt_skip ⟨⟨HX.out.os, HX.out.tape, HX.out.output, HX.out.size, fun q o hq hnq => HX.out.blk hq (fun e => hnq (.inr e))⟩, HO.out, HN.out⟩
  clear hv
  apply wpR_nil
  apply hN
  intro w5 hE' hK hF
  have hx5 := hEW.trans hE'
  have k3 : SOwn 5 w2.heap.size (minB ah k) (.slice A5 (minB ah k).length c5) w5 := (hK 3).2
  have k6n : SOwnN w2.heap.size ah (.slice A5 (minB ah k).length c5) (.slice A6 ah.length c6) w5 := (hK 6).2
  have N34 := Lib.hid k6n.1
  have k6 : SOwn 5 w2.heap.size ah (.slice A6 ah.length c6) w5 := k6n.2
  have N13 := Lib.hid (noShare_of O1.out (Nat.le_refl _) k3.own)
  have N23 := Lib.hid (noShare_of O3.out (Nat.le_refl _) k3.own)
  have N14 := Lib.hid (noShare_of O1.out (Nat.le_refl _) k6.own)
  have N24 := Lib.hid (noShare_of O3.out (Nat.le_refl _) k6.own)
  clear k6n
  obtain ⟨hF1, hF2⟩ := hF
  have h6 : w5.heap[g6]? = some (.cells #[.slice A1 a.length c1, .slice A5 (minB ah k).length c5, .bool false] 32) := hF1
  have h7 : w5.heap[g7]? = some (.cells #[.slice A2 (maxB a k).length c2, .slice A6 ah.length c6, .bool false] 32) := hF2
  have hE5 := hX w5 hE'
  have hx8 : ∀ {A : Option Addr} {c : Nat} {bs : List UInt8}, Own 5 (w.heap.size + 3) w2 A c bs → Own 5 (w.heap.size + 3) w5 A c bs := fun {A c bs} h => by
    refine ⟨h.1, ?_⟩
    rcases h.2 with h0 | ⟨q, cap, cur, hv, hb, hq, r⟩
    · exact .inl h0
    · exact .inr ⟨q, cap, cur, hv, hb, hx5.blk hq (hR8 q cur hq), r⟩
  replace O1 := Lib.hid (hx8 O1.out)
  replace O3 := Lib.hid (hx8 O3.out)
  have O2 := Lib.hid (Own.mono k3.own (B' := w.heap.size + 3) (by omega))
  have O4 := Lib.hid (Own.mono k6.own (B' := w.heap.size + 3) (by omega))
  replace H6 := Lib.hid h6
  replace H7 := Lib.hid h7
  replace H4 := Lib.hid (hx5.blk H4.out (by omega))
  replace H5 := Lib.hid (hx5.blk H5.out (by omega))
  clear hK hN k3 k6 hF1 hF2 h6 h7 hx8 hx5 hE hX hEW hE' hW hF0 hR8 hLS hLN H0 e0 e1 e2
  have hE := hE5
  clear hE5
  go_wp2
  refine wp_region_rg (Exc (fun k _ => k = w.heap.size + 1 ∨ k = w.heap.size + 1 + 1)) (rel_exc _) (fun w' => w'.heap[w.heap.size + 1]? = some (.cells #[.slice none 0 0, .slice none 0 0, .bool false] 32) ∧ w'.heap[w.heap.size + 1 + 1]? = some (.cells #[.slice none 0 0, .slice none 0 0, .bool false] 32)) [0, 1, 2, 3] (fun _ => none) (fun i => match i with
    | 2 => some fun _ _ w' => w'.heap[w.heap.size + 1]? = some (.cells #[.slice A1 a.length c1, .slice A5 (minB ah k).length c5, .bool false] 32) ∧ w'.heap[w.heap.size + 1 + 1]? = some (.cells #[.slice none 0 0, .slice none 0 0, .bool false] 32)
    | 3 => some fun _ _ w' => w'.heap[w.heap.size + 1]? = some (.cells #[.slice A1 a.length c1, .slice A5 (minB ah k).length c5, .bool false] 32) ∧ w'.heap[w.heap.size + 1 + 1]? = some (.cells #[.slice A2 (maxB a k).length c2, .slice A6 ah.length c6, .bool false] 32)
    | _ => none) (fun _ => false) (by kernel_rfl) (by kernel_rfl) (fun _ _ h he => ⟨he.blk h.1, he.blk h.2⟩) ⟨H4.out, H5.out⟩ (fun W N hW hF0 hN => ?_)
  have hEW : Exc (fun k _ => k = w.heap.size + 1 ∨ k = w.heap.size + 1 + 1) w5 W := Exc.of_ext hW
  have x0 : ∀ w', Exc (fun k _ => k = w.heap.size + 1 ∨ k = w.heap.size + 1 + 1) w5 w' → w'.cell? ⟨g6, 0, none⟩ = some (.slice A1 a.length c1) := fun w' h => cell_of_row _ _ _ _ _ _ (h.blk H6.out (by omega))
  have x1 : ∀ w', Exc (fun k _ => k = w.heap.size + 1 ∨ k = w.heap.size + 1 + 1) w5 w' → w'.cell? ⟨g6, 1, none⟩ = some (.slice A5 (minB ah k).length c5) := fun w' h => cell_of_row _ _ _ _ _ _ (h.blk H6.out (by omega))
  have x2 : ∀ w', Exc (fun k _ => k = w.heap.size + 1 ∨ k = w.heap.size + 1 + 1) w5 w' → w'.cell? ⟨g6, 2, none⟩ = some (.bool false) := fun w' h => cell_of_row _ _ _ _ _ _ (h.blk H6.out (by omega))
  have y0 : ∀ w', Exc (fun k _ => k = w.heap.size + 1 ∨ k = w.heap.size + 1 + 1) w5 w' → w'.cell? ⟨g7, 0, none⟩ = some (.slice A2 (maxB a k).length c2) := fun w' h => cell_of_row _ _ _ _ _ _ (h.blk H7.out (by omega))
  have y1 : ∀ w', Exc (fun k _ => k = w.heap.size + 1 ∨ k = w.heap.size + 1 + 1) w5 w' → w'.cell? ⟨g7, 1, none⟩ = some (.slice A6 ah.length c6) := fun w' h => cell_of_row _ _ _ _ _ _ (h.blk H7.out (by omega))
  have y2 : ∀ w', Exc (fun k _ => k = w.heap.size + 1 ∨ k = w.heap.size + 1 + 1) w5 w' → w'.cell? ⟨g7, 2, none⟩ = some (.bool false) := fun w' h => cell_of_row _ _ _ _ _ _ (h.blk H7.out (by omega))
  repeat (first | (apply wpR_one; (case ho => (simp only [List.getElem?_toArray, List.getElem?_cons_succ, List.getElem?_cons_zero]; try exact rfl)); (case hw => rfl); (case hl => rfl); (case hsp => rfl); (case he => rfl); (case hv => (intro w' hw'; (try (have hw2 := Ext.trans hEW hw')); (try (have hw3 := Exc.trans hEW hw')); (try (have hw4 := Exk.trans hEW hw')); (try (have hw5 := Mrk.trans hEW hw')); go_simp; exact rfl)); (case hw0 => (first | exact Below.refl _ _ | exact Exc.of_ext (Below.refl _ _) | exact Exk.of_ext (Below.refl _ _) | exact Mrk.of_ext (Below.refl _ _))); simp only [Act.put, List.setIfInBounds_toArray, List.set_cons_succ, List.set_cons_zero]) | (apply wpR_early; (case ho => (simp only [List.getElem?_toArray, List.getElem?_cons_succ, List.getElem?_cons_zero]; try exact rfl)); (case hw => rfl); (case hl => rfl); (case hsp => rfl); (case he => rfl); (case hv => (intro w' hw'; (try have hw2 := Ext.trans hEW hw'); go_simp; exact rfl)); simp only [Act.put, List.setIfInBounds_toArray, List.set_cons_succ, List.set_cons_zero]) | (apply wpR_pass; (case ho => (simp only [List.getElem?_toArray, List.getElem?_cons_succ, List.getElem?_cons_zero]; try exact rfl)); (case hw => rfl); (case hl => rfl); simp only [Act.put, List.setIfInBounds_toArray, List.set_cons_succ, List.set_cons_zero]))
  refine wpR_late (by ((simp only [List.getElem?_toArray, List.getElem?_cons_succ, List.getElem?_cons_zero]; try exact rfl))) _ rfl rfl (fun V v w' w2 h he => ⟨he.blk h.1, he.blk h.2⟩) (fun V V' h => rfl) (fun w' hw' hK hF => ?_) (fun v hv => ?_)
  · refine opAt_list rfl #[] (fun Q hQ => ?_)
    refine wpList_store_box rfl 32 _ _ rfl (w.heap.size + 1) _ rfl rfl 32 _ hF.1 (by kernel_rfl) rfl (by simp [Value.oneCell']) (fun w2 hb hg => ?_)
    exact hQ _ _ ⟨Exc.of_only hg (fun _ _ => .inl rfl), hb, blk_other hF.2 hg (by omega)⟩
  clear hv
  simp only [Act.put, List.setIfInBounds_toArray, List.set_cons_succ, List.set_cons_zero]
  refine wpR_late (by ((simp only [List.getElem?_toArray, List.getElem?_cons_succ, List.getElem?_cons_zero]; try exact rfl))) _ rfl rfl (fun V v w' w2 h he => ⟨he.blk h.1, he.blk h.2⟩) (fun V V' h => rfl) (fun w' hw' hK hF => ?_) (fun v hv => ?_)
  · refine opAt_list rfl #[] (fun Q hQ => ?_)
    refine wpList_store_box rfl 32 _ _ rfl (w.heap.size + 1 + 1) _ rfl rfl 32 _ hF.2 (by kernel_rfl) rfl (by simp [Value.oneCell']) (fun w2 hb hg => ?_)
    exact hQ _ _ ⟨Exc.of_only hg (fun _ _ => .inr rfl), blk_other hF.1 hg (by omega), hb⟩
  clear hv
  apply wpR_nil
  apply hN
  intro w9 hE9 hK hF
  obtain ⟨r1, r2⟩ := hF
  have hx9 := hEW.trans hE9
  have hE' : Ext w w9 := hx9.to_ext hE (fun k _ hk => by omega)
  have o1 := ownsRow_exc8 O1.out hx9 (fun k cs h1 h2 => by omega)
  have o2 := ownsRow_exc8 O2.out hx9 (fun k cs h1 h2 => by omega)
  have o3 := ownsRow_exc8 O3.out hx9 (fun k cs h1 h2 => by omega)
  have o4 := ownsRow_exc8 O4.out hx9 (fun k cs h1 h2 => by omega)
  have K1 := Lib.hid (o1.mono (B' := w.heap.size) (by omega))
  have K2 := Lib.hid (o2.mono (B' := w.heap.size) (by omega))
  have K3 := Lib.hid (o3.mono (B' := w.heap.size) (by omega))
  have K4 := Lib.hid (o4.mono (B' := w.heap.size) (by omega))
  clear hK hN x0 x1 x2 y0 y1 y2 hEW hE9 hx9 hW hF0 o1 o2 o3 o4
  go_wp2
  exact bodyPost_ret (results_rr rfl _ _ _ _ _ _ _ _ _ _ _ _ rfl r1 Try.underlying32 rfl (by kernel_rfl) rfl r2 Try.underlying32 rfl (by kernel_rfl)) rfl ⟨_, _, _, _, _, _, _, _, _, _, rfl, rfl, rfl, K1.out, K2.out, K3.out, K4.out, four_apart N13.out N12.out N14.out N23.out.symm N34.out N24.out, hE'⟩
end Go.Proofs.Ytijlaknfagpglaa

namespace Go.Proofs.Ytijlaknfagpglaa
open Go.RowKit Go.Proofs
set_option linter.unusedVariables false
set_option linter.unusedSimpArgs false
theorem calls_cutM {P : Program} {f : FuncId} {args : Array Value} {w : World} {Q : Ending → World → Prop} (F : World → Prop) (hF : F w) (h : ∀ W, F W → Calls P f args W Q) : Calls P f args w Q := h w hF
theorem rgreater_any {A B : Option Addr} {c d n m : Nat} {xs ys : List UInt8} {w : World} (ha : Sl w A c xs) (hb : Sl w B d ys) (hn : n = xs.length) (hm : m = ys.length) :
    Calls Try.prog 72 #[.slice A n c, .slice B m d] w fun e w' => ∃ A' c', e = .returned (.slice A' (maxB xs ys).length c') ∧ Own 5 w.heap.size w' A' c' (maxB xs ys) ∧ Ext w w' := by
  subst hn
  subst hm
  go_enter Try.func72, Try.ntmps72
  go_wp2_with fail
  refine (cmp_any ha hb rfl rfl).mono ?_
  rintro e w1 ⟨rfl, hE⟩
  by_cases h0 : cmpB xs ys < 0
  · have HQ := Lib.hid (show maxB xs ys = ys by unfold maxB; rw [if_pos h0])
    have h1 : ¬ 0 ≤ cmpB xs ys := by omega
    have h2 := Lib.hid h0
    clear h0
    go_wp2_with fail
    refine (cpy_any (hb.ext hE) rfl).mono ?_
    rintro e w2 ⟨A2, c2, rfl, ho, hE2⟩
    have ho2 := Own.mono ho hE.size
    go_wp2
    go_ret
    rw [HQ.out]
    exact ⟨_, _, rfl, ho2, hE.trans hE2⟩
  · have h1 : 0 ≤ cmpB xs ys := by omega
    have HQ := Lib.hid (show maxB xs ys = xs by unfold maxB; rw [if_neg h0])
    clear h0
    go_wp2_with fail
    refine (cpy_any (ha.ext hE) rfl).mono ?_
    rintro e w2 ⟨A2, c2, rfl, ho, hE2⟩
    have ho2 := Own.mono ho hE.size
    go_wp2
    go_ret
    rw [HQ.out]
    exact ⟨_, _, rfl, ho2, hE.trans hE2⟩
theorem rlesser_any {A B : Option Addr} {c d n m : Nat} {xs ys : List UInt8} {w : World} (ha : Sl w A c xs) (hb : Sl w B d ys) (hn : n = xs.length) (hm : m = ys.length) :
    Calls Try.prog 73 #[.slice A n c, .slice B m d] w fun e w' => ∃ A' c', e = .returned (.slice A' (minB xs ys).length c') ∧ Own 5 w.heap.size w' A' c' (minB xs ys) ∧ Ext w w' := by
  subst hn
  subst hm
  go_enter Try.func73, Try.ntmps73
  go_wp2_with fail
  refine (cmp_any ha hb rfl rfl).mono ?_
  rintro e w1 ⟨rfl, hE⟩
  by_cases h0 : 0 < cmpB xs ys
  · have HQ := Lib.hid (show minB xs ys = ys by unfold minB; rw [if_pos h0])
    have h1 : ¬ cmpB xs ys ≤ 0 := by omega
    have h2 := Lib.hid h0
    clear h0
    go_wp2_with fail
    refine (cpy_any (hb.ext hE) rfl).mono ?_
    rintro e w2 ⟨A2, c2, rfl, ho, hE2⟩
    have ho2 := Own.mono ho hE.size
    go_wp2
    go_ret
    rw [HQ.out]
    exact ⟨_, _, rfl, ho2, hE.trans hE2⟩
  · have h1 : cmpB xs ys ≤ 0 := by omega
    have HQ := Lib.hid (show minB xs ys = xs by unfold minB; rw [if_neg h0])
    clear h0
    go_wp2_with fail
    refine (cpy_any (ha.ext hE) rfl).mono ?_
    rintro e w2 ⟨A2, c2, rfl, ho, hE2⟩
    have ho2 := Own.mono ho hE.size
    go_wp2
    go_ret
    rw [HQ.out]
    exact ⟨_, _, rfl, ho2, hE.trans hE2⟩
set_option maxRecDepth 8000 in
set_option maxHeartbeats 2000000 in
theorem rmeet_any {aA aB bA bB : Option Addr} {ac ad bc bd : Nat} {a ah b bh : List UInt8} {ao bo : Bool} {w : World} (ha : Sl w aA ac a) (hah : Sl w aB ad ah) (hb : Sl w bA bc b) (hbh : Sl w bB bd bh) :
    Calls Try.prog 60 #[.agg #[.slice aA a.length ac, .slice aB ah.length ad, .bool ao], .agg #[.slice bA b.length bc, .slice bB bh.length bd, .bool bo]] w fun e w' => ∃ A c B d r, r = meetB ⟨a, ah, ao⟩ ⟨b, bh, bo⟩ ∧
      e = .returned (.agg #[.slice A r.lo.length c, .slice B r.hi.length d, .bool r.op]) ∧ Own 5 w.heap.size w' A c r.lo ∧ Own 5 w.heap.size w' B d r.hi ∧ Ext w w' := by
  rcases ao with _ | _ <;> rcases bo with _ | _
  · -- false false
    go_enter Try.func60, Try.ntmps60
    go_wp2_with fail
    refine calls_cutM (fun W => Ext w W ∧ W.heap[w.heap.size]? = some (.cells #[.slice aA a.length ac, .slice aB ah.length ad, .bool false] 32) ∧ W.heap[w.heap.size + 1]? = some (.cells #[.slice bA b.length bc, .slice bB bh.length bd, .bool false] 32) ∧ W.heap[w.heap.size + 1 + 1]? = some (.cells #[.slice none 0 0, .slice none 0 0, .bool false] 32)) ⟨((ext_alloc _ _).trans (ext_alloc _ _)).trans (ext_alloc _ _), (ext_alloc _ _).blk (heap_alloc2_old _ _ _), (ext_alloc _ _).blk (heap_alloc2_new _ _ _), by rw [show w.heap.size + 1 + 1 = ((w.alloc _).alloc _).heap.size by simp]; exact heap_alloc_new _ _⟩ ?_
    rintro w1 ⟨hE, hb1, hb2, hb3⟩
    refine (rgreater_any (ha.ext hE) (hb.ext hE) rfl rfl).mono ?_
    rintro e w2 ⟨A9, c9, rfl, o1, hE2⟩
    have r1 := hE2.blk hb1
    have r2 := hE2.blk hb2
    have r3 := hE2.blk hb3
    have hlt3 := (Array.getElem?_eq_some_iff.1 r3).1
    have hs0 : w.heap.size < w2.heap.size := by omega
    have hs1 : w.heap.size + 1 < w2.heap.size := by omega
    have hE3 := hE.trans hE2
    have fa1 : w2.cell? ⟨w.heap.size, 1, none⟩ = some (.slice aB ah.length ad) := cell_of_row _ _ _ _ _ _ r1
    have fa2 : w2.cell? ⟨w.heap.size, 2, none⟩ = some (.bool false) := cell_of_row _ _ _ _ _ _ r1
    have fb1 : w2.cell? ⟨w.heap.size + 1, 1, none⟩ = some (.slice bB bh.length bd) := cell_of_row _ _ _ _ _ _ r2
    have fb2 : w2.cell? ⟨w.heap.size + 1, 2, none⟩ = some (.bool false) := cell_of_row _ _ _ _ _ _ r2
    clear hb1 hb2 hb3
    go_wp2_with fail
    refine calls_cutM (fun W => Ext w2 W ∧ W.heap[w2.heap.size]? = some (.cells #[.slice A9 (maxB a b).length c9, .slice none 0 0, .bool false] 32)) ⟨ext_alloc _ _, heap_alloc_new _ _⟩ ?_
    rintro w4 ⟨hEx, hb5⟩
    have hE4 := hE3.trans hEx
    refine (rlesser_any (hah.ext hE4) (hbh.ext hE4) rfl rfl).mono ?_
    rintro e w5 ⟨A7, c7, rfl, o7, hE5⟩
    have q6 := hE5.blk hb5
    have hE25 := hEx.trans hE5
    have r5 := hE25.blk r3
    have o2 := (Own.mono o1 hE.size).ext hE25
    have hE6 := hE4.trans hE5
    have o7m := Own.mono o7 hE4.size
    have hfz := frozen_of_row w5 w2.heap.size 1 _ _ q6
    have fo0 : w5.cell? ⟨w2.heap.size, 0, none⟩ = some (.slice A9 (maxB a b).length c9) := cell_of_row _ _ _ _ _ _ q6
    have fo1 : w5.cell? ⟨w2.heap.size, 1, none⟩ = some (.slice none 0 0) := cell_of_row _ _ _ _ _ _ q6
    have fo2 : w5.cell? ⟨w2.heap.size, 2, none⟩ = some (.bool false) := cell_of_row _ _ _ _ _ _ q6
    have hE8 := ext_store (p := ⟨w2.heap.size, 1, none⟩) hE6 hE3.size (.slice A7 (minB ah bh).length c7)
    have hk8 : w5.grownBy (w5.setCell ⟨w2.heap.size, 1, none⟩ (.slice A7 (minB ah bh).length c7)) (some w2.heap.size) := ⟨rfl, rfl, rfl, by simp, fun k _ hk => heap_setCell_other w5 ⟨w2.heap.size, 1, none⟩ k _ (fun e => hk (by simp [e]))⟩
    have o8 := o2.other q6 (by decide) hk8
    have p8 := o7m.other q6 (by decide) hk8
    have r8 := (heap_setCell_other w5 ⟨w2.heap.size, 1, none⟩ (w.heap.size + 1 + 1) (.slice A7 (minB ah bh).length c7) (by simp; omega)).trans r5
    clear fa1 fa2 fb1 fb2 o2 o7 o7m r1 r2 r3 r5
    go_wp2_with (refine wpList_store_box rfl 32 _ _ rfl (w.heap.size + 1 + 1) _ rfl rfl 32 _ r8 (by kernel_rfl) rfl (by simp [Value.oneCell']) ?_; intro w9 hb9 hg9)
    have o9 := o8.other r8 (by decide) hg9
    have p9 := p8.other r8 (by decide) hg9
    have hE9 := ext_only hE8 hg9 (by omega)
    go_wp2
    exact bodyPost_ret (results_cell_row rfl _ _ _ _ _ _ _ rfl hb9 Try.underlying32 rfl (by kernel_rfl)) rfl ⟨_, _, _, _, _, rfl, rfl, o9, p9, hE9⟩
  · -- false true
    go_enter Try.func60, Try.ntmps60
    go_wp2_with fail
    refine calls_cutM (fun W => Ext w W ∧ W.heap[w.heap.size]? = some (.cells #[.slice aA a.length ac, .slice aB ah.length ad, .bool false] 32) ∧ W.heap[w.heap.size + 1]? = some (.cells #[.slice bA b.length bc, .slice bB bh.length bd, .bool true] 32) ∧ W.heap[w.heap.size + 1 + 1]? = some (.cells #[.slice none 0 0, .slice none 0 0, .bool false] 32)) ⟨((ext_alloc _ _).trans (ext_alloc _ _)).trans (ext_alloc _ _), (ext_alloc _ _).blk (heap_alloc2_old _ _ _), (ext_alloc _ _).blk (heap_alloc2_new _ _ _), by rw [show w.heap.size + 1 + 1 = ((w.alloc _).alloc _).heap.size by simp]; exact heap_alloc_new _ _⟩ ?_
    rintro w1 ⟨hE, hb1, hb2, hb3⟩
    refine (rgreater_any (ha.ext hE) (hb.ext hE) rfl rfl).mono ?_
    rintro e w2 ⟨A9, c9, rfl, o1, hE2⟩
    have r1 := hE2.blk hb1
    have r2 := hE2.blk hb2
    have r3 := hE2.blk hb3
    have hlt3 := (Array.getElem?_eq_some_iff.1 r3).1
    have hs0 : w.heap.size < w2.heap.size := by omega
    have hs1 : w.heap.size + 1 < w2.heap.size := by omega
    have hE3 := hE.trans hE2
    have fa1 : w2.cell? ⟨w.heap.size, 1, none⟩ = some (.slice aB ah.length ad) := cell_of_row _ _ _ _ _ _ r1
    have fa2 : w2.cell? ⟨w.heap.size, 2, none⟩ = some (.bool false) := cell_of_row _ _ _ _ _ _ r1
    have fb1 : w2.cell? ⟨w.heap.size + 1, 1, none⟩ = some (.slice bB bh.length bd) := cell_of_row _ _ _ _ _ _ r2
    have fb2 : w2.cell? ⟨w.heap.size + 1, 2, none⟩ = some (.bool true) := cell_of_row _ _ _ _ _ _ r2
    clear hb1 hb2 hb3
    go_wp2_with fail
    refine calls_cutM (fun W => Ext w2 W ∧ W.heap[w2.heap.size]? = some (.cells #[.slice A9 (maxB a b).length c9, .slice none 0 0, .bool false] 32)) ⟨ext_alloc _ _, heap_alloc_new _ _⟩ ?_
    rintro w4 ⟨hEx, hb5⟩
    have hE4 := hE3.trans hEx
    refine (cpy_any (hah.ext hE4) rfl).mono ?_
    rintro e w5 ⟨A7, c7, rfl, o7, hE5⟩
    have q6 := hE5.blk hb5
    have hE25 := hEx.trans hE5
    have r5 := hE25.blk r3
    have o2 := (Own.mono o1 hE.size).ext hE25
    have hE6 := hE4.trans hE5
    have o7m := Own.mono o7 hE4.size
    have hfz := frozen_of_row w5 w2.heap.size 1 _ _ q6
    have fo0 : w5.cell? ⟨w2.heap.size, 0, none⟩ = some (.slice A9 (maxB a b).length c9) := cell_of_row _ _ _ _ _ _ q6
    have fo1 : w5.cell? ⟨w2.heap.size, 1, none⟩ = some (.slice none 0 0) := cell_of_row _ _ _ _ _ _ q6
    have fo2 : w5.cell? ⟨w2.heap.size, 2, none⟩ = some (.bool false) := cell_of_row _ _ _ _ _ _ q6
    have hE8 := ext_store (p := ⟨w2.heap.size, 1, none⟩) hE6 hE3.size (.slice A7 ah.length c7)
    have hk8 : w5.grownBy (w5.setCell ⟨w2.heap.size, 1, none⟩ (.slice A7 ah.length c7)) (some w2.heap.size) := ⟨rfl, rfl, rfl, by simp, fun k _ hk => heap_setCell_other w5 ⟨w2.heap.size, 1, none⟩ k _ (fun e => hk (by simp [e]))⟩
    have o8 := o2.other q6 (by decide) hk8
    have p8 := o7m.other q6 (by decide) hk8
    have r8 := (heap_setCell_other w5 ⟨w2.heap.size, 1, none⟩ (w.heap.size + 1 + 1) (.slice A7 ah.length c7) (by simp; omega)).trans r5
    clear fa1 fa2 fb1 fb2 o2 o7 o7m r1 r2 r3 r5
    go_wp2_with (refine wpList_store_box rfl 32 _ _ rfl (w.heap.size + 1 + 1) _ rfl rfl 32 _ r8 (by kernel_rfl) rfl (by simp [Value.oneCell']) ?_; intro w9 hb9 hg9)
    have o9 := o8.other r8 (by decide) hg9
    have p9 := p8.other r8 (by decide) hg9
    have hE9 := ext_only hE8 hg9 (by omega)
    go_wp2
    exact bodyPost_ret (results_cell_row rfl _ _ _ _ _ _ _ rfl hb9 Try.underlying32 rfl (by kernel_rfl)) rfl ⟨_, _, _, _, _, rfl, rfl, o9, p9, hE9⟩
  · -- true false
    go_enter Try.func60, Try.ntmps60
    go_wp2_with fail
    refine calls_cutM (fun W => Ext w W ∧ W.heap[w.heap.size]? = some (.cells #[.slice aA a.length ac, .slice aB ah.length ad, .bool true] 32) ∧ W.heap[w.heap.size + 1]? = some (.cells #[.slice bA b.length bc, .slice bB bh.length bd, .bool false] 32) ∧ W.heap[w.heap.size + 1 + 1]? = some (.cells #[.slice none 0 0, .slice none 0 0, .bool false] 32)) ⟨((ext_alloc _ _).trans (ext_alloc _ _)).trans (ext_alloc _ _), (ext_alloc _ _).blk (heap_alloc2_old _ _ _), (ext_alloc _ _).blk (heap_alloc2_new _ _ _), by rw [show w.heap.size + 1 + 1 = ((w.alloc _).alloc _).heap.size by simp]; exact heap_alloc_new _ _⟩ ?_
    rintro w1 ⟨hE, hb1, hb2, hb3⟩
    refine (rgreater_any (ha.ext hE) (hb.ext hE) rfl rfl).mono ?_
    rintro e w2 ⟨A9, c9, rfl, o1, hE2⟩
    have r1 := hE2.blk hb1
    have r2 := hE2.blk hb2
    have r3 := hE2.blk hb3
    have hlt3 := (Array.getElem?_eq_some_iff.1 r3).1
    have hs0 : w.heap.size < w2.heap.size := by omega
    have hs1 : w.heap.size + 1 < w2.heap.size := by omega
    have hE3 := hE.trans hE2
    have fa1 : w2.cell? ⟨w.heap.size, 1, none⟩ = some (.slice aB ah.length ad) := cell_of_row _ _ _ _ _ _ r1
    have fa2 : w2.cell? ⟨w.heap.size, 2, none⟩ = some (.bool true) := cell_of_row _ _ _ _ _ _ r1
    have fb1 : w2.cell? ⟨w.heap.size + 1, 1, none⟩ = some (.slice bB bh.length bd) := cell_of_row _ _ _ _ _ _ r2
    have fb2 : w2.cell? ⟨w.heap.size + 1, 2, none⟩ = some (.bool false) := cell_of_row _ _ _ _ _ _ r2
    clear hb1 hb2 hb3
    go_wp2_with fail
    refine calls_cutM (fun W => Ext w2 W ∧ W.heap[w2.heap.size]? = some (.cells #[.slice A9 (maxB a b).length c9, .slice none 0 0, .bool false] 32)) ⟨ext_alloc _ _, heap_alloc_new _ _⟩ ?_
    rintro w4 ⟨hEx, hb5⟩
    have hE4 := hE3.trans hEx
    refine (cpy_any (hbh.ext hE4) rfl).mono ?_
    rintro e w5 ⟨A7, c7, rfl, o7, hE5⟩
    have q6 := hE5.blk hb5
    have hE25 := hEx.trans hE5
    have r5 := hE25.blk r3
    have o2 := (Own.mono o1 hE.size).ext hE25
    have hE6 := hE4.trans hE5
    have o7m := Own.mono o7 hE4.size
    have hfz := frozen_of_row w5 w2.heap.size 1 _ _ q6
    have fo0 : w5.cell? ⟨w2.heap.size, 0, none⟩ = some (.slice A9 (maxB a b).length c9) := cell_of_row _ _ _ _ _ _ q6
    have fo1 : w5.cell? ⟨w2.heap.size, 1, none⟩ = some (.slice none 0 0) := cell_of_row _ _ _ _ _ _ q6
    have fo2 : w5.cell? ⟨w2.heap.size, 2, none⟩ = some (.bool false) := cell_of_row _ _ _ _ _ _ q6
    have hE8 := ext_store (p := ⟨w2.heap.size, 1, none⟩) hE6 hE3.size (.slice A7 bh.length c7)
    have hk8 : w5.grownBy (w5.setCell ⟨w2.heap.size, 1, none⟩ (.slice A7 bh.length c7)) (some w2.heap.size) := ⟨rfl, rfl, rfl, by simp, fun k _ hk => heap_setCell_other w5 ⟨w2.heap.size, 1, none⟩ k _ (fun e => hk (by simp [e]))⟩
    have o8 := o2.other q6 (by decide) hk8
    have p8 := o7m.other q6 (by decide) hk8
    have r8 := (heap_setCell_other w5 ⟨w2.heap.size, 1, none⟩ (w.heap.size + 1 + 1) (.slice A7 bh.length c7) (by simp; omega)).trans r5
    clear fa1 fa2 fb1 fb2 o2 o7 o7m r1 r2 r3 r5
    go_wp2_with (refine wpList_store_box rfl 32 _ _ rfl (w.heap.size + 1 + 1) _ rfl rfl 32 _ r8 (by kernel_rfl) rfl (by simp [Value.oneCell']) ?_; intro w9 hb9 hg9)
    have o9 := o8.other r8 (by decide) hg9
    have p9 := p8.other r8 (by decide) hg9
    have hE9 := ext_only hE8 hg9 (by omega)
    go_wp2
    exact bodyPost_ret (results_cell_row rfl _ _ _ _ _ _ _ rfl hb9 Try.underlying32 rfl (by kernel_rfl)) rfl ⟨_, _, _, _, _, rfl, rfl, o9, p9, hE9⟩
  · -- true true
    go_enter Try.func60, Try.ntmps60
    go_wp2_with fail
    refine calls_cutM (fun W => Ext w W ∧ W.heap[w.heap.size]? = some (.cells #[.slice aA a.length ac, .slice aB ah.length ad, .bool true] 32) ∧ W.heap[w.heap.size + 1]? = some (.cells #[.slice bA b.length bc, .slice bB bh.length bd, .bool true] 32) ∧ W.heap[w.heap.size + 1 + 1]? = some (.cells #[.slice none 0 0, .slice none 0 0, .bool false] 32)) ⟨((ext_alloc _ _).trans (ext_alloc _ _)).trans (ext_alloc _ _), (ext_alloc _ _).blk (heap_alloc2_old _ _ _), (ext_alloc _ _).blk (heap_alloc2_new _ _ _), by rw [show w.heap.size + 1 + 1 = ((w.alloc _).alloc _).heap.size by simp]; exact heap_alloc_new _ _⟩ ?_
    rintro w1 ⟨hE, hb1, hb2, hb3⟩
    refine (rgreater_any (ha.ext hE) (hb.ext hE) rfl rfl).mono ?_
    rintro e w2 ⟨A9, c9, rfl, o1, hE2⟩
    have r1 := hE2.blk hb1
    have r2 := hE2.blk hb2
    have r3 := hE2.blk hb3
    have hlt3 := (Array.getElem?_eq_some_iff.1 r3).1
    have hs0 : w.heap.size < w2.heap.size := by omega
    have hs1 : w.heap.size + 1 < w2.heap.size := by omega
    have hE3 := hE.trans hE2
    have fa1 : w2.cell? ⟨w.heap.size, 1, none⟩ = some (.slice aB ah.length ad) := cell_of_row _ _ _ _ _ _ r1
    have fa2 : w2.cell? ⟨w.heap.size, 2, none⟩ = some (.bool true) := cell_of_row _ _ _ _ _ _ r1
    have fb1 : w2.cell? ⟨w.heap.size + 1, 1, none⟩ = some (.slice bB bh.length bd) := cell_of_row _ _ _ _ _ _ r2
    have fb2 : w2.cell? ⟨w.heap.size + 1, 2, none⟩ = some (.bool true) := cell_of_row _ _ _ _ _ _ r2
    clear hb1 hb2 hb3
    have hEa := hE3.trans (ext_alloc w2 (.cells #[.slice A9 (maxB a b).length c9, .slice none 0 0, .bool true] 32 (0, 0)))
    have r5 := (ext_alloc w2 (.cells #[.slice A9 (maxB a b).length c9, .slice none 0 0, .bool true] 32 (0, 0))).blk r3
    have o2 := (Own.mono o1 hE.size).ext (ext_alloc w2 (.cells #[.slice A9 (maxB a b).length c9, .slice none 0 0, .bool true] 32 (0, 0)))
    go_wp2_with (refine wpList_store_box rfl 32 _ _ rfl (w.heap.size + 1 + 1) _ rfl rfl 32 _ r5 (by kernel_rfl) rfl (by simp [Value.oneCell']) ?_; intro w9 hb9 hg9)
    have o9 := o2.other r5 (by decide) hg9
    have hE9 := ext_only hEa hg9 (by omega)
    go_wp2
    exact bodyPost_ret (results_cell_row rfl _ _ _ _ _ _ _ rfl hb9 Try.underlying32 rfl (by kernel_rfl)) rfl ⟨A9, c9, none, 0, _, rfl, rfl, o9, own_nil _ _ _, hE9⟩
end Go.Proofs.Ytijlaknfagpglaa

namespace Go.Proofs.Ytijlaknfagpglaa
open Go.RowKit Go.Proofs
set_option linter.unusedVariables false
set_option linter.unusedSimpArgs false
set_option maxRecDepth 8000 in
set_option maxHeartbeats 4000000 in
theorem rabv_any {A : Option Addr} {c n : Nat} {p : List UInt8} {w : World} (h : Sl w A c p) (hn : n = p.length) :
    Calls Try.prog 61 #[.slice A n c] w fun e w' => ∃ A' c' B' d', e = .returned (.agg #[.slice A' p.length c', .slice B' (upB p).length d', .bool (aboveR p).op]) ∧ Own 5 w.heap.size w' A' c' p ∧ Own 5 w.heap.size w' B' d' (upB p) ∧ Ext w w' := by
  subst hn
  have hl := h.len
  have hE0 := ext_alloc w (.cells #[.slice none 0 0, .slice none 0 0, .bool false] 32 (0, 0))
  go_enter Try.func61, Try.ntmps61
  go_wp2_with fail
  refine (cpy_any (h.ext hE0) rfl).mono ?_
  rintro e w1 ⟨A1, c1, rfl, ho, hE1⟩
  have hb1 := hE1.blk (heap_alloc_new w _)
  have hE := hE0.trans hE1
  have hlt := (Array.getElem?_eq_some_iff.1 hb1).1
  have ho1 := ho.mono (show w.heap.size + 1 ≤ _ by simp)
  have hst0 := Lib.hid (Stem.start p)
  have hle := (ho.sl hl).le
  clear ho hE0 hE1
  go_wp2
  go_loop [3] (fun v => ∃ k : Nat, v = .slice A1 k c1 ∧ k ≤ p.length ∧ Hid (Stem p k)) (fun v => match v with | .slice _ k _ => k | _ => 0)
  case atStart => exact ⟨p.length, rfl, Nat.le_refl _, hst0⟩
  case round =>
    obtain ⟨k, rfl, hkp, hst⟩ := hrel
    by_cases hk : 0 < k
    · obtain ⟨j, rfl⟩ : ∃ j, k = j + 1 := ⟨k - 1, by omega⟩
      obtain ⟨g, rfl, hg⟩ := ho1.form (by omega)
      have hck := ho1.cell (i := j) (by omega)
      have hfr := ho1.frozen j
      by_cases he : at8 p j = 255
      · have hs2 := Lib.hid (hst.out.step he)
        have h1 : at8 p j ≤ 255 := by omega
        have h2 : 255 ≤ at8 p j := by omega
        clear he
        go_wp2
        go_round
        case rel => exact ⟨j, by go_num, by omega, hs2⟩
        case measure => simp
      · have h1 : at8 p j < 255 := by have := at8_bd p j; omega
        have h3 : 0 ≤ at8 p j := (at8_bd p j).1
        have hne : (at8 p j == 255) = false := by simp; omega
        have hup := hst.out.set_up he
        have ho2 := (ho1.take (j + 1)).set_ j (b8 (at8 p j + 1))
        rw [hup, b8_toNat, Int.emod_eq_of_lt (by omega) (by omega)] at ho2
        have hE2 := ext_store (p := ⟨g, j, none⟩) hE (by show w.heap.size ≤ g; omega) (.int .u8 (at8 p j + 1))
        have hul : (upB p).length = j + 1 := by rw [← hup]; simp; omega
        have hr2 := (Below.heap_setCell w1 ⟨g, j, none⟩ (.int .u8 (at8 p j + 1)) w.heap.size (by simp; omega)).trans hb1
        have HU := Lib.hid hul
        have HUN := Lib.hid (show decide (upB p = []) = false by rw [decide_eq_false_iff_not]; intro e; rw [e] at hul; simp at hul)
        clear he hup hul hb1 hle hk
        go_wp2_with fail
        refine (cpy_any (h.ext hE2) rfl).mono ?_
        rintro e w4 ⟨A4, c4, rfl, o4, hE4⟩
        have hb4 := hE4.blk hr2
        have hE5 := hE2.trans hE4
        have o2 := ho2.ext hE4
        have o4m := Own.mono o4 hE2.size
        clear hr2 ho2 o4 hck hfr
        go_wp2_with (refine wpList_store_box rfl 32 _ _ rfl w.heap.size _ rfl rfl 32 _ hb4 (by kernel_rfl) rfl (by simp [Value.oneCell']) ?_; intro w9 hb9 hg9)
        have o9 := o2.other hb4 (by decide) hg9
        have p9 := o4m.other hb4 (by decide) hg9
        have hE9 := ext_only hE5 hg9 (Nat.le_refl _)
        go_wp2
        exact bodyPost_ret (results_cell_row rfl _ _ _ _ _ _ _ rfl hb9 Try.underlying32 rfl (by kernel_rfl)) rfl ⟨A4, c4, _, _, by simp only [aboveR]; rw [HU.out, HUN.out], p9, o9.mono (Nat.le_succ _), hE9⟩
    · obtain rfl : k = 0 := by omega
      have hu := Lib.hid hst.out.up_zero
      have HUN := Lib.hid (show decide (upB p = []) = true by rw [hu.out]; rfl)
      clear hk hkp
      go_wp2_with fail
      refine (cpy_any (h.ext hE) rfl).mono ?_
      rintro e w4 ⟨A4, c4, rfl, o4, hE4⟩
      have hb4 := hE4.blk hb1
      have hE5 := hE.trans hE4
      have o4m := Own.mono o4 hE.size
      clear o4
      go_wp2_with (refine wpList_store_box rfl 32 _ _ rfl w.heap.size _ rfl rfl 32 _ hb4 (by kernel_rfl) rfl (by simp [Value.oneCell']) ?_; intro w9 hb9 hg9)
      have p9 := o4m.other hb4 (by decide) hg9
      have hE9 := ext_only hE5 hg9 (Nat.le_refl _)
      go_wp2
      exact bodyPost_ret (results_cell_row rfl _ _ _ _ _ _ _ rfl hb9 Try.underlying32 rfl (by kernel_rfl)) rfl ⟨A4, c4, none, 0, by simp only [aboveR]; rw [HUN.out, hu.out]; rfl, p9, by rw [hu.out]; exact own_nil _ _ _, hE9⟩
end Go.Proofs.Ytijlaknfagpglaa

namespace Go.Proofs.Ytijlaknfagpglaa
open Go.RowKit Go.Proofs
set_option linter.unusedVariables false
set_option linter.unusedSimpArgs false
set_option maxRecDepth 100000 in
set_option maxHeartbeats 2000000 in
theorem rspl_true {aA aB C : Option Addr} {ac ad f n : Nat} {a ah k : List UInt8} {w : World} (ha : Sl w aA ac a) (hah : Sl w aB ad ah) (hk : Sl w C f k) (hn : n = k.length) :
    Calls Try.prog 62 #[.agg #[.slice aA a.length ac, .slice aB ah.length ad, .bool true], .slice C n f] w fun e w' => ∃ A c B d A2 c2 B2 d2 r s, r = lowB ⟨a, ah, true⟩ k ∧ s = highB ⟨a, ah, true⟩ k ∧
      e = .returned (.tuple #[.agg #[.slice A r.lo.length c, .slice B r.hi.length d, .bool r.op], .agg #[.slice A2 s.lo.length c2, .slice B2 s.hi.length d2, .bool s.op]]) ∧
      Own 5 w.heap.size w' A c r.lo ∧ Own 5 w.heap.size w' B d r.hi ∧ Own 5 w.heap.size w' A2 c2 s.lo ∧ Own 5 w.heap.size w' B2 d2 s.hi ∧ Ext w w' := by
  subst hn
  have hla := ha.len
  have hlh := hah.len
  have hlk := hk.len
  go_enter Try.func62, Try.ntmps62
  go_wp2_with fail
  refine calls_cutM (fun W => Ext w W ∧ W.heap[w.heap.size]? = some (.cells #[.slice aA a.length ac, .slice aB ah.length ad, .bool true] 32) ∧ W.heap[w.heap.size + 1]? = some (.cells #[.slice none 0 0, .slice none 0 0, .bool false] 32) ∧ W.heap[w.heap.size + 1 + 1]? = some (.cells #[.slice none 0 0, .slice none 0 0, .bool false] 32)) ⟨((ext_alloc _ _).trans (ext_alloc _ _)).trans (ext_alloc _ _), (ext_alloc _ _).blk (heap_alloc2_old _ _ _), (ext_alloc _ _).blk (heap_alloc2_new _ _ _), by rw [show w.heap.size + 1 + 1 = ((w.alloc _).alloc _).heap.size by simp]; exact heap_alloc_new _ _⟩ ?_
  rintro w1 ⟨hE1, b0, b1, b2⟩
  refine (cpy_any (ha.ext hE1) rfl).mono ?_
  rintro e w2 ⟨A1, c1, rfl, o1, hE2⟩
  have hE3 := hE1.trans hE2
  go_wp2_with fail
  refine (cpy_any (hk.ext hE3) rfl).mono ?_
  rintro e w3 ⟨A2, c2, rfl, o2, hE4⟩
  have hE5 := hE3.trans hE4
  have hw1 : w.heap.size + 1 + 1 < w1.heap.size := (Array.getElem?_eq_some_iff.1 b2).1
  have hs2 := hE2.size
  have hs4 := hE4.size
  have r0 := (hE2.trans hE4).blk b0
  have r1 := (hE2.trans hE4).blk b1
  have r2 := (hE2.trans hE4).blk b2
  have o1' := (Own.mono o1 (show w.heap.size + 3 ≤ _ by omega)).ext hE4
  have o2' := Own.mono o2 (show w.heap.size + 3 ≤ _ by omega)
  have e2 : w3.cell? ⟨w.heap.size, 2, none⟩ = some (.bool true) := cell_of_row _ _ _ _ _ _ r0
  have e1 : w3.cell? ⟨w.heap.size, 1, none⟩ = some (.slice aB ah.length ad) := cell_of_row _ _ _ _ _ _ r0
  have hz0 : w.heap.size < w3.heap.size := by omega
  have HG := Lib.hid (show w.heap.size + 3 ≤ w3.heap.size by omega)
  clear b0 b1 b2 o1 o2 hs2 hs4 hE1 hE2 hE3 hE4 hw1
  go_wp2
  have hEx := ext_alloc w3 (.cells #[.slice A1 a.length c1, .slice A2 k.length c2, .bool false] 32 (0, 0))
  refine wp_cut (fun W => Ext w W ∧ W.heap[w.heap.size]? = some (.cells #[.slice aA a.length ac, .slice aB ah.length ad, .bool true] 32) ∧ W.heap[w.heap.size + 1]? = some (.cells #[.slice none 0 0, .slice none 0 0, .bool false] 32) ∧ W.heap[w.heap.size + 1 + 1]? = some (.cells #[.slice none 0 0, .slice none 0 0, .bool false] 32) ∧ W.heap[w3.heap.size]? = some (.cells #[.slice A1 a.length c1, .slice A2 k.length c2, .bool false] 32) ∧ Own 5 (w.heap.size + 3) W A1 c1 a ∧ Own 5 (w.heap.size + 3) W A2 c2 k) ⟨hE5.trans hEx, hEx.blk r0, hEx.blk r1, hEx.blk r2, heap_alloc_new _ _, o1'.ext hEx, o2'.ext hEx⟩ ?_
  clear hEx
  clear hz0
  obtain ⟨g6, hg6⟩ : ∃ q, w3.heap.size = q := ⟨_, rfl⟩
  rw [hg6] at HG
  rw [hg6]
  have HG6 := Lib.hid hg6
  clear hg6
  rintro w6 ⟨hE, b0, b1, b2, b6, o1, oL⟩
  have H0 := Lib.hid b0
  have H4 := Lib.hid b1
  have H5 := Lib.hid b2
  have H6 := Lib.hid b6
  have O1 := Lib.hid o1
  have O2 := Lib.hid oL
  have hw1 : w.heap.size + 1 + 1 < w6.heap.size := (Array.getElem?_eq_some_iff.1 b2).1
  have hw6 : g6 < w6.heap.size := (Array.getElem?_eq_some_iff.1 b6).1
  clear b0 b1 b2 b6 o1 oL
  refine wp_region_rg (Exk (RgBlk w6.heap.size)) (rel_exk _) (fun _ => True) [0, 1, 2, 3, 4, 5, 6, 7, 8] (fun i => match i with
    | 3 => some fun V => SOwn 5 w6.heap.size (maxB a k)
    | 7 => some fun V => RgCell w6.heap.size
    | _ => none) (fun i => match i with
    | 8 => some fun V _ => RgAt w6.heap.size (V 3) (.slice none 0 0) (.bool true) (V 7)
    | _ => none) (fun _ => false) (by kernel_rfl) (by kernel_rfl) (fun _ _ h he => trivial) trivial (fun W N hW hF0 hN => ?_)
  have hEW : Exk (RgBlk w6.heap.size) w6 W := Exk.of_ext hW
  have hX : ∀ w', Exk (RgBlk w6.heap.size) W w' → Ext w w' := fun w' h => (Exk.trans hEW h).x.to_ext hE (fun k _ hk => by have := hk.1; omega)
  have e0 : ∀ w', Exk (RgBlk w6.heap.size) w6 w' → w'.cell? ⟨w.heap.size, 0, none⟩ = some (.slice aA a.length ac) := fun w' h => cell_of_row _ _ _ _ _ _ (h.x.blk H0.out (RgBlk.notLt (by omega)))
  have e2 : ∀ w', Exk (RgBlk w6.heap.size) w6 w' → w'.cell? ⟨w.heap.size, 2, none⟩ = some (.bool true) := fun w' h => cell_of_row _ _ _ _ _ _ (h.x.blk H0.out (RgBlk.notLt (by omega)))
  repeat (first | (apply wpR_one; (case ho => (simp only [List.getElem?_toArray, List.getElem?_cons_succ, List.getElem?_cons_zero]; try exact rfl)); (case hw => rfl); (case hl => rfl); (case hsp => rfl); (case he => rfl); (case hv => (intro w' hw'; (try (have hw2 := Ext.trans hEW hw')); (try (have hw3 := Exc.trans hEW hw')); (try (have hw4 := Exk.trans hEW hw')); (try (have hw5 := Mrk.trans hEW hw')); go_simp; exact rfl)); (case hw0 => (first | exact Below.refl _ _ | exact Exc.of_ext (Below.refl _ _) | exact Exk.of_ext (Below.refl _ _) | exact Mrk.of_ext (Below.refl _ _))); simp only [Act.put, List.setIfInBounds_toArray, List.set_cons_succ, List.set_cons_zero]) | (apply wpR_early; (case ho => (simp only [List.getElem?_toArray, List.getElem?_cons_succ, List.getElem?_cons_zero]; try exact rfl)); (case hw => rfl); (case hl => rfl); (case hsp => rfl); (case he => rfl); (case hv => (intro w' hw'; (try have hw2 := Ext.trans hEW hw'); go_simp; exact rfl)); simp only [Act.put, List.setIfInBounds_toArray, List.set_cons_succ, List.set_cons_zero]) | (apply wpR_pass; (case ho => (simp only [List.getElem?_toArray, List.getElem?_cons_succ, List.getElem?_cons_zero]; try exact rfl)); (case hw => rfl); (case hl => rfl); simp only [Act.put, List.setIfInBounds_toArray, List.set_cons_succ, List.set_cons_zero]))
  refine wpR_new (by ((simp only [List.getElem?_toArray, List.getElem?_cons_succ, List.getElem?_cons_zero]; try exact rfl))) _ rfl rfl rfl (fun V v => SOwn.lastsRg _ _) (fun V V' h => rfl) (fun w' hw' hK => ?_) (fun v hv => ?_)
  · have HX := Lib.hid (hX w' hw')
    have hs := (hEW.trans hw').x.size
    clear hK
    unfold opAt; go_simp; refine upAt_enter ?_
    refine (rgreater_any (ha.ext HX.out) (hk.ext HX.out) rfl rfl).mono ?_
    rintro e w9 ⟨A, c, rfl, ho, hE9⟩
    exact ⟨_, rfl, hE9, A, c, rfl, ho.mono hs⟩
  obtain ⟨A9, c9, rfl⟩ : ∃ A c, v = .slice A (maxB a k).length c := by
    obtain ⟨_, _, _, A, c, h, _⟩ := hv
    exact ⟨A, c, h⟩
  clear hv
  simp only [Act.put, List.setIfInBounds_toArray, List.set_cons_succ, List.set_cons_zero]
  repeat (first | (apply wpR_one; (case ho => (simp only [List.getElem?_toArray, List.getElem?_cons_succ, List.getElem?_cons_zero]; try exact rfl)); (case hw => rfl); (case hl => rfl); (case hsp => rfl); (case he => rfl); (case hv => (intro w' hw'; (try (have hw2 := Ext.trans hEW hw')); (try (have hw3 := Exc.trans hEW hw')); (try (have hw4 := Exk.trans hEW hw')); (try (have hw5 := Mrk.trans hEW hw')); go_simp; exact rfl)); (case hw0 => (first | exact Below.refl _ _ | exact Exc.of_ext (Below.refl _ _) | exact Exk.of_ext (Below.refl _ _) | exact Mrk.of_ext (Below.refl _ _))); simp only [Act.put, List.setIfInBounds_toArray, List.set_cons_succ, List.set_cons_zero]) | (apply wpR_early; (case ho => (simp only [List.getElem?_toArray, List.getElem?_cons_succ, List.getElem?_cons_zero]; try exact rfl)); (case hw => rfl); (case hl => rfl); (case hsp => rfl); (case he => rfl); (case hv => (intro w' hw'; (try have hw2 := Ext.trans hEW hw'); go_simp; exact rfl)); simp only [Act.put, List.setIfInBounds_toArray, List.set_cons_succ, List.set_cons_zero]) | (apply wpR_pass; (case ho => (simp only [List.getElem?_toArray, List.getElem?_cons_succ, List.getElem?_cons_zero]; try exact rfl)); (case hw => rfl); (case hl => rfl); simp only [Act.put, List.setIfInBounds_toArray, List.set_cons_succ, List.set_cons_zero]))
  refine wpR_alloc (by ((simp only [List.getElem?_toArray, List.getElem?_cons_succ, List.getElem?_cons_zero]; try exact rfl))) _ rfl rfl rfl (fun V v => RgCell.lasts _ _) (fun V V' h => rfl) (fun w' hw' hK => ?_) (fun v hv => ?_)
  · have hXs := (hEW.trans hw').x.size
    unfold opAt
    go_simp
    exact upAt_value ⟨ext_alloc _ _, ⟨_, rfl, hXs, _, heap_alloc_new _ _, rfl⟩, fun _ g hg => by injection hg with hg; exact ⟨hg.symm, by simp⟩⟩
  obtain ⟨g7, rfl⟩ : ∃ g, v = .pointer (some ⟨g, 0, none⟩) := by
    obtain ⟨_, _, _, g, e, _⟩ := hv
    exact ⟨g, e⟩
  clear hv
  simp only [Act.put, List.setIfInBounds_toArray, List.set_cons_succ, List.set_cons_zero]
  refine wpR_late (by ((simp only [List.getElem?_toArray, List.getElem?_cons_succ, List.getElem?_cons_zero]; try exact rfl))) _ rfl rfl (fun V v w' w2 h he => h.ext he) (fun V V' h => by simp only [h 3 (by kernel_rfl), h 7 (by kernel_rfl)]) (fun w' hw' hK hF => ?_) (fun v hv => ?_)
  · obtain ⟨g, e8, hg8, cs, hb8, hs8⟩ := (hK 7 (by kernel_rfl)).2
    obtain rfl := ptrR_inj (show Value.pointer (some ⟨g7, 0, none⟩) = _ from e8)
    refine opAt_list rfl #[] (fun Q hQ => ?_)
    refine wpList_store_box rfl 32 _ _ rfl g7 _ rfl rfl 32 _ hb8 (by kernel_rfl) hs8 (by simp [Value.oneCell']) (fun w2 hb hg => ?_)
    exact hQ _ _ ⟨Exk.of_only hg hb8 hb (by rw [hs8]; rfl) ⟨hg8, _, _, rfl⟩, ⟨g7, rfl, hg8, hb⟩⟩
  clear hv
  apply wpR_nil
  apply hN
  intro w7 hE' hK hF
  have hx := (hEW.trans hE').x
  have k1 : SOwn 5 w6.heap.size (maxB a k) (.slice A9 (maxB a k).length c9) w7 := (hK 3).2
  obtain ⟨_, x1, x2, x3⟩ := hF
  obtain rfl := ptrR_inj (show Value.pointer (some ⟨g7, 0, none⟩) = _ from x1)
  have O3 := Lib.hid (Own.mono k1.own (B' := w.heap.size + 3) (by omega))
  have h7 : w7.heap[g7]? = some (.cells #[.slice A9 (maxB a k).length c9, .slice none 0 0, .bool true] 32) := x3
  have H7 := Lib.hid h7
  have hE2 := hX w7 hE'
  have o1 := ownsRow_exc8 O1.out hx (fun k cs _ => RgBlk.not8)
  have o2 := ownsRow_exc8 O2.out hx (fun k cs _ => RgBlk.not8)
  replace O1 := Lib.hid o1
  replace O2 := Lib.hid o2
  replace H0 := Lib.hid (hx.blk H0.out (RgBlk.notLt (by omega)))
  replace H4 := Lib.hid (hx.blk H4.out (RgBlk.notLt (by omega)))
  replace H5 := Lib.hid (hx.blk H5.out (RgBlk.notLt (by omega)))
  replace H6 := Lib.hid (hx.blk H6.out (RgBlk.notLt (by omega)))
  have hg7 : w6.heap.size ≤ g7 := x2
  have hw7 : w6.heap.size ≤ w7.heap.size := hx.size
  have hne : g6 ≠ g7 := by omega
  have hg6 := HG.out
  clear hK hN k1 x1 x2 x3 h7 hx hE hX hEW hE' hW hF0 e0 e2 o1 o2 HG
  have hE := hE2
  clear hE2
  have e2 := cell_of_row w7 w.heap.size 2 _ _ _ H0.out
  have e1 := cell_of_row w7 w.heap.size 1 _ _ _ H0.out
  simp at e2 e1
  go_wp2
  clear e1 e2
  have O4 := Lib.hid (show Own 5 (w.heap.size + 3) w7 none 0 [] from own_nil _ _ _)
  refine wp_region_rg (Exc (fun k _ => k = w.heap.size + 1 ∨ k = w.heap.size + 1 + 1)) (rel_exc _) (fun w' => w'.heap[w.heap.size + 1]? = some (.cells #[.slice none 0 0, .slice none 0 0, .bool false] 32) ∧ w'.heap[w.heap.size + 1 + 1]? = some (.cells #[.slice none 0 0, .slice none 0 0, .bool false] 32)) [0, 1, 2, 3] (fun _ => none) (fun i => match i with
    | 2 => some fun _ _ w' => w'.heap[w.heap.size + 1]? = some (.cells #[.slice A1 a.length c1, .slice A2 k.length c2, .bool false] 32) ∧ w'.heap[w.heap.size + 1 + 1]? = some (.cells #[.slice none 0 0, .slice none 0 0, .bool false] 32)
    | 3 => some fun _ _ w' => w'.heap[w.heap.size + 1]? = some (.cells #[.slice A1 a.length c1, .slice A2 k.length c2, .bool false] 32) ∧ w'.heap[w.heap.size + 1 + 1]? = some (.cells #[.slice A9 (maxB a k).length c9, .slice none 0 0, .bool true] 32)
    | _ => none) (fun _ => false) (by kernel_rfl) (by kernel_rfl) (fun _ _ h he => ⟨he.blk h.1, he.blk h.2⟩) ⟨H4.out, H5.out⟩ (fun W N hW hF0 hN => ?_)
  have hEW : Exc (fun k _ => k = w.heap.size + 1 ∨ k = w.heap.size + 1 + 1) w7 W := Exc.of_ext hW
  have x0 : ∀ w', Exc (fun k _ => k = w.heap.size + 1 ∨ k = w.heap.size + 1 + 1) w7 w' → w'.cell? ⟨g6, 0, none⟩ = some (.slice A1 a.length c1) := fun w' h => cell_of_row _ _ _ _ _ _ (h.blk H6.out (by omega))
  have x1 : ∀ w', Exc (fun k _ => k = w.heap.size + 1 ∨ k = w.heap.size + 1 + 1) w7 w' → w'.cell? ⟨g6, 1, none⟩ = some (.slice A2 k.length c2) := fun w' h => cell_of_row _ _ _ _ _ _ (h.blk H6.out (by omega))
  have x2 : ∀ w', Exc (fun k _ => k = w.heap.size + 1 ∨ k = w.heap.size + 1 + 1) w7 w' → w'.cell? ⟨g6, 2, none⟩ = some (.bool false) := fun w' h => cell_of_row _ _ _ _ _ _ (h.blk H6.out (by omega))
  have y0 : ∀ w', Exc (fun k _ => k = w.heap.size + 1 ∨ k = w.heap.size + 1 + 1) w7 w' → w'.cell? ⟨g7, 0, none⟩ = some (.slice A9 (maxB a k).length c9) := fun w' h => cell_of_row _ _ _ _ _ _ (h.blk H7.out (by omega))
  have y1 : ∀ w', Exc (fun k _ => k = w.heap.size + 1 ∨ k = w.heap.size + 1 + 1) w7 w' → w'.cell? ⟨g7, 1, none⟩ = some (.slice none 0 0) := fun w' h => cell_of_row _ _ _ _ _ _ (h.blk H7.out (by omega))
  have y2 : ∀ w', Exc (fun k _ => k = w.heap.size + 1 ∨ k = w.heap.size + 1 + 1) w7 w' → w'.cell? ⟨g7, 2, none⟩ = some (.bool true) := fun w' h => cell_of_row _ _ _ _ _ _ (h.blk H7.out (by omega))
  repeat (first | (apply wpR_one; (case ho => (simp only [List.getElem?_toArray, List.getElem?_cons_succ, List.getElem?_cons_zero]; try exact rfl)); (case hw => rfl); (case hl => rfl); (case hsp => rfl); (case he => rfl); (case hv => (intro w' hw'; (try (have hw2 := Ext.trans hEW hw')); (try (have hw3 := Exc.trans hEW hw')); (try (have hw4 := Exk.trans hEW hw')); (try (have hw5 := Mrk.trans hEW hw')); go_simp; exact rfl)); (case hw0 => (first | exact Below.refl _ _ | exact Exc.of_ext (Below.refl _ _) | exact Exk.of_ext (Below.refl _ _) | exact Mrk.of_ext (Below.refl _ _))); simp only [Act.put, List.setIfInBounds_toArray, List.set_cons_succ, List.set_cons_zero]) | (apply wpR_early; (case ho => (simp only [List.getElem?_toArray, List.getElem?_cons_succ, List.getElem?_cons_zero]; try exact rfl)); (case hw => rfl); (case hl => rfl); (case hsp => rfl); (case he => rfl); (case hv => (intro w' hw'; (try have hw2 := Ext.trans hEW hw'); go_simp; exact rfl)); simp only [Act.put, List.setIfInBounds_toArray, List.set_cons_succ, List.set_cons_zero]) | (apply wpR_pass; (case ho => (simp only [List.getElem?_toArray, List.getElem?_cons_succ, List.getElem?_cons_zero]; try exact rfl)); (case hw => rfl); (case hl => rfl); simp only [Act.put, List.setIfInBounds_toArray, List.set_cons_succ, List.set_cons_zero]))
  refine wpR_late (by ((simp only [List.getElem?_toArray, List.getElem?_cons_succ, List.getElem?_cons_zero]; try exact rfl))) _ rfl rfl (fun V v w' w2 h he => ⟨he.blk h.1, he.blk h.2⟩) (fun V V' h => rfl) (fun w' hw' hK hF => ?_) (fun v hv => ?_)
  · refine opAt_list rfl #[] (fun Q hQ => ?_)
    refine wpList_store_box rfl 32 _ _ rfl (w.heap.size + 1) _ rfl rfl 32 _ hF.1 (by kernel_rfl) rfl (by simp [Value.oneCell']) (fun w2 hb hg => ?_)
    exact hQ _ _ ⟨Exc.of_only hg (fun _ _ => .inl rfl), hb, blk_other hF.2 hg (by omega)⟩
  clear hv
  simp only [Act.put, List.setIfInBounds_toArray, List.set_cons_succ, List.set_cons_zero]
  refine wpR_late (by ((simp only [List.getElem?_toArray, List.getElem?_cons_succ, List.getElem?_cons_zero]; try exact rfl))) _ rfl rfl (fun V v w' w2 h he => ⟨he.blk h.1, he.blk h.2⟩) (fun V V' h => rfl) (fun w' hw' hK hF => ?_) (fun v hv => ?_)
  · refine opAt_list rfl #[] (fun Q hQ => ?_)
    refine wpList_store_box rfl 32 _ _ rfl (w.heap.size + 1 + 1) _ rfl rfl 32 _ hF.2 (by kernel_rfl) rfl (by simp [Value.oneCell']) (fun w2 hb hg => ?_)
    exact hQ _ _ ⟨Exc.of_only hg (fun _ _ => .inr rfl), blk_other hF.1 hg (by omega), hb⟩
  clear hv
  apply wpR_nil
  apply hN
  intro w9 hE9 hK hF
  obtain ⟨r1, r2⟩ := hF
  have hx9 := hEW.trans hE9
  have hE' : Ext w w9 := hx9.to_ext hE (fun k _ hk => by omega)
  have o1 := ownsRow_exc8 O1.out hx9 (fun k cs h1 h2 => by omega)
  have o2 := ownsRow_exc8 O2.out hx9 (fun k cs h1 h2 => by omega)
  have o3 := ownsRow_exc8 O3.out hx9 (fun k cs h1 h2 => by omega)
  have o4 := ownsRow_exc8 O4.out hx9 (fun k cs h1 h2 => by omega)
  have K1 := Lib.hid (o1.mono (B' := w.heap.size) (by omega))
  have K2 := Lib.hid (o2.mono (B' := w.heap.size) (by omega))
  have K3 := Lib.hid (o3.mono (B' := w.heap.size) (by omega))
  have K4 := Lib.hid (o4.mono (B' := w.heap.size) (by omega))
  clear hK hN x0 x1 x2 y0 y1 y2 hEW hE9 hx9 hW hF0 o1 o2 o3 o4
  go_wp2
  exact bodyPost_ret (results_rr rfl _ _ _ _ _ _ _ _ _ _ _ _ rfl r1 Try.underlying32 rfl (by kernel_rfl) rfl r2 Try.underlying32 rfl (by kernel_rfl)) rfl ⟨_, _, _, _, _, _, _, _, _, _, rfl, rfl, rfl, K1.out, K2.out, K3.out, K4.out, hE'⟩
set_option maxRecDepth 100000 in
set_option maxHeartbeats 2000000 in
theorem rspl_false {aA aB C : Option Addr} {ac ad f n : Nat} {a ah k : List UInt8} {w : World} (ha : Sl w aA ac a) (hah : Sl w aB ad ah) (hk : Sl w C f k) (hn : n = k.length) :
    Calls Try.prog 62 #[.agg #[.slice aA a.length ac, .slice aB ah.length ad, .bool false], .slice C n f] w fun e w' => ∃ A c B d A2 c2 B2 d2 r s, r = lowB ⟨a, ah, false⟩ k ∧ s = highB ⟨a, ah, false⟩ k ∧
      e = .returned (.tuple #[.agg #[.slice A r.lo.length c, .slice B r.hi.length d, .bool r.op], .agg #[.slice A2 s.lo.length c2, .slice B2 s.hi.length d2, .bool s.op]]) ∧
      Own 5 w.heap.size w' A c r.lo ∧ Own 5 w.heap.size w' B d r.hi ∧ Own 5 w.heap.size w' A2 c2 s.lo ∧ Own 5 w.heap.size w' B2 d2 s.hi ∧ Ext w w' := by
  subst hn
  have hla := ha.len
  have hlh := hah.len
  have hlk := hk.len
  go_enter Try.func62, Try.ntmps62
  go_wp2_with fail
  refine calls_cutM (fun W => Ext w W ∧ W.heap[w.heap.size]? = some (.cells #[.slice aA a.length ac, .slice aB ah.length ad, .bool false] 32) ∧ W.heap[w.heap.size + 1]? = some (.cells #[.slice none 0 0, .slice none 0 0, .bool false] 32) ∧ W.heap[w.heap.size + 1 + 1]? = some (.cells #[.slice none 0 0, .slice none 0 0, .bool false] 32)) ⟨((ext_alloc _ _).trans (ext_alloc _ _)).trans (ext_alloc _ _), (ext_alloc _ _).blk (heap_alloc2_old _ _ _), (ext_alloc _ _).blk (heap_alloc2_new _ _ _), by rw [show w.heap.size + 1 + 1 = ((w.alloc _).alloc _).heap.size by simp]; exact heap_alloc_new _ _⟩ ?_
  rintro w1 ⟨hE1, b0, b1, b2⟩
  refine (cpy_any (ha.ext hE1) rfl).mono ?_
  rintro e w2 ⟨A1, c1, rfl, o1, hE2⟩
  have hE3 := hE1.trans hE2
  go_wp2_with fail
  refine (cpy_any (hk.ext hE3) rfl).mono ?_
  rintro e w3 ⟨A2, c2, rfl, o2, hE4⟩
  have hE5 := hE3.trans hE4
  have hw1 : w.heap.size + 1 + 1 < w1.heap.size := (Array.getElem?_eq_some_iff.1 b2).1
  have hs2 := hE2.size
  have hs4 := hE4.size
  have r0 := (hE2.trans hE4).blk b0
  have r1 := (hE2.trans hE4).blk b1
  have r2 := (hE2.trans hE4).blk b2
  have o1' := (Own.mono o1 (show w.heap.size + 3 ≤ _ by omega)).ext hE4
  have o2' := Own.mono o2 (show w.heap.size + 3 ≤ _ by omega)
  have e2 : w3.cell? ⟨w.heap.size, 2, none⟩ = some (.bool false) := cell_of_row _ _ _ _ _ _ r0
  have e1 : w3.cell? ⟨w.heap.size, 1, none⟩ = some (.slice aB ah.length ad) := cell_of_row _ _ _ _ _ _ r0
  have hz0 : w.heap.size < w3.heap.size := by omega
  have HG := Lib.hid (show w.heap.size + 3 ≤ w3.heap.size by omega)
  clear b0 b1 b2 o1 o2 hs2 hs4 hE1 hE2 hE3 hE4 hw1
  go_wp2_with fail
  refine calls_cutM (fun W => Ext w3 W ∧ W.heap[w3.heap.size]? = some (.cells #[.slice A1 a.length c1, .slice A2 k.length c2, .bool false] 32)) ⟨ext_alloc _ _, heap_alloc_new _ _⟩ ?_
  rintro w4 ⟨hEx, hb5⟩
  have hE6 := hE5.trans hEx
  refine (rlesser_any (hah.ext hE6) (hk.ext hE6) rfl rfl).mono ?_
  rintro e w5 ⟨A7, c7, rfl, o7, hE7⟩
  have q6 := hE7.blk hb5
  have hE25 := hEx.trans hE7
  have hE8 := hE6.trans hE7
  have o1x := o1'.ext hE25
  have o7x := Own.mono o7 (show w.heap.size + 3 ≤ _ by have := hEx.size; have := HG.out; omega)
  have hfz := frozen_of_row w5 w3.heap.size 1 _ _ q6
  have fo1 : w5.cell? ⟨w3.heap.size, 1, none⟩ = some (.slice A2 k.length c2) := cell_of_row _ _ _ _ _ _ q6
  have hE9 := ext_store (p := ⟨w3.heap.size, 1, none⟩) hE8 (by show w.heap.size ≤ w3.heap.size; omega) (.slice A7 (minB ah k).length c7)
  have hk8 : w5.grownBy (w5.setCell ⟨w3.heap.size, 1, none⟩ (.slice A7 (minB ah k).length c7)) (some w3.heap.size) := ⟨rfl, rfl, rfl, by simp, fun k _ hk => heap_setCell_other w5 ⟨w3.heap.size, 1, none⟩ k _ (fun e => hk (by simp [e]))⟩
  have x1 := o1x.other q6 (by decide) hk8
  have x7 := o7x.other q6 (by decide) hk8
  have hs := heap_setCell_same w5 w3.heap.size 1 _ _ (.slice A7 (minB ah k).length c7) q6
  simp only [List.setIfInBounds_toArray, List.set_cons_succ, List.set_cons_zero] at hs
  have y0 := (heap_setCell_other w5 ⟨w3.heap.size, 1, none⟩ w.heap.size (.slice A7 (minB ah k).length c7) (by show w.heap.size ≠ w3.heap.size; omega)).trans (hE25.blk r0)
  have y1 := (heap_setCell_other w5 ⟨w3.heap.size, 1, none⟩ (w.heap.size + 1) (.slice A7 (minB ah k).length c7) (by have := HG.out; show w.heap.size + 1 ≠ w3.heap.size; omega)).trans (hE25.blk r1)
  have y2 := (heap_setCell_other w5 ⟨w3.heap.size, 1, none⟩ (w.heap.size + 1 + 1) (.slice A7 (minB ah k).length c7) (by have := HG.out; show w.heap.size + 1 + 1 ≠ w3.heap.size; omega)).trans (hE25.blk r2)
  have HX := Lib.hid (show _ ∧ _ ∧ _ ∧ _ ∧ _ ∧ _ ∧ _ from ⟨hE9, y0, y1, y2, hs, x1, x7⟩)
  clear hE9 y0 y1 y2 hs x1 x7 hE25 o1x o7x o7 e1 e2 hEx hb5 hE5 hE6 hE7 hE8 q6 hk8 r0 r1 r2 o1' o2'
  go_wp2
  refine wp_cut (fun W => Ext w W ∧ W.heap[w.heap.size]? = some (.cells #[.slice aA a.length ac, .slice aB ah.length ad, .bool false] 32) ∧ W.heap[w.heap.size + 1]? = some (.cells #[.slice none 0 0, .slice none 0 0, .bool false] 32) ∧ W.heap[w.heap.size + 1 + 1]? = some (.cells #[.slice none 0 0, .slice none 0 0, .bool false] 32) ∧ W.heap[w3.heap.size]? = some (.cells #[.slice A1 a.length c1, .slice A7 (minB ah k).length c7, .bool false] 32) ∧ Own 5 (w.heap.size + 3) W A1 c1 a ∧ Own 5 (w.heap.size + 3) W A7 c7 (minB ah k)) HX.out ?_
  clear HX fo1 hfz
  clear hz0
  obtain ⟨g6, hg6⟩ : ∃ q, w3.heap.size = q := ⟨_, rfl⟩
  rw [hg6] at HG
  rw [hg6]
  have HG6 := Lib.hid hg6
  clear hg6
  rintro w6 ⟨hE, b0, b1, b2, b6, o1, oL⟩
  have H0 := Lib.hid b0
  have H4 := Lib.hid b1
  have H5 := Lib.hid b2
  have H6 := Lib.hid b6
  have O1 := Lib.hid o1
  have O2 := Lib.hid oL
  have hw1 : w.heap.size + 1 + 1 < w6.heap.size := (Array.getElem?_eq_some_iff.1 b2).1
  have hw6 : g6 < w6.heap.size := (Array.getElem?_eq_some_iff.1 b6).1
  clear b0 b1 b2 b6 o1 oL
  refine wp_region_rg (Exk (RgBlk w6.heap.size)) (rel_exk _) (fun _ => True) [0, 1, 2, 3, 4, 5, 6, 7, 8] (fun i => match i with
    | 3 => some fun V => SOwn 5 w6.heap.size (maxB a k)
    | 7 => some fun V => RgCell w6.heap.size
    | _ => none) (fun i => match i with
    | 8 => some fun V _ => RgAt w6.heap.size (V 3) (.slice none 0 0) (.bool false) (V 7)
    | _ => none) (fun _ => false) (by kernel_rfl) (by kernel_rfl) (fun _ _ h he => trivial) trivial (fun W N hW hF0 hN => ?_)
  have hEW : Exk (RgBlk w6.heap.size) w6 W := Exk.of_ext hW
  have hX : ∀ w', Exk (RgBlk w6.heap.size) W w' → Ext w w' := fun w' h => (Exk.trans hEW h).x.to_ext hE (fun k _ hk => by have := hk.1; omega)
  have e0 : ∀ w', Exk (RgBlk w6.heap.size) w6 w' → w'.cell? ⟨w.heap.size, 0, none⟩ = some (.slice aA a.length ac) := fun w' h => cell_of_row _ _ _ _ _ _ (h.x.blk H0.out (RgBlk.notLt (by omega)))
  have e2 : ∀ w', Exk (RgBlk w6.heap.size) w6 w' → w'.cell? ⟨w.heap.size, 2, none⟩ = some (.bool false) := fun w' h => cell_of_row _ _ _ _ _ _ (h.x.blk H0.out (RgBlk.notLt (by omega)))
  repeat (first | (apply wpR_one; (case ho => (simp only [List.getElem?_toArray, List.getElem?_cons_succ, List.getElem?_cons_zero]; try exact rfl)); (case hw => rfl); (case hl => rfl); (case hsp => rfl); (case he => rfl); (case hv => (intro w' hw'; (try (have hw2 := Ext.trans hEW hw')); (try (have hw3 := Exc.trans hEW hw')); (try (have hw4 := Exk.trans hEW hw')); (try (have hw5 := Mrk.trans hEW hw')); go_simp; exact rfl)); (case hw0 => (first | exact Below.refl _ _ | exact Exc.of_ext (Below.refl _ _) | exact Exk.of_ext (Below.refl _ _) | exact Mrk.of_ext (Below.refl _ _))); simp only [Act.put, List.setIfInBounds_toArray, List.set_cons_succ, List.set_cons_zero]) | (apply wpR_early; (case ho => (simp only [List.getElem?_toArray, List.getElem?_cons_succ, List.getElem?_cons_zero]; try exact rfl)); (case hw => rfl); (case hl => rfl); (case hsp => rfl); (case he => rfl); (case hv => (intro w' hw'; (try have hw2 := Ext.trans hEW hw'); go_simp; exact rfl)); simp only [Act.put, List.setIfInBounds_toArray, List.set_cons_succ, List.set_cons_zero]) | (apply wpR_pass; (case ho => (simp only [List.getElem?_toArray, List.getElem?_cons_succ, List.getElem?_cons_zero]; try exact rfl)); (case hw => rfl); (case hl => rfl); simp only [Act.put, List.setIfInBounds_toArray, List.set_cons_succ, List.set_cons_zero]))
  refine wpR_new (by ((simp only [List.getElem?_toArray, List.getElem?_cons_succ, List.getElem?_cons_zero]; try exact rfl))) _ rfl rfl rfl (fun V v => SOwn.lastsRg _ _) (fun V V' h => rfl) (fun w' hw' hK => ?_) (fun v hv => ?_)
  · have HX := Lib.hid (hX w' hw')
    have hs := (hEW.trans hw').x.size
    clear hK
    unfold opAt; go_simp; refine upAt_enter ?_
    refine (rgreater_any (ha.ext HX.out) (hk.ext HX.out) rfl rfl).mono ?_
    rintro e w9 ⟨A, c, rfl, ho, hE9⟩
    exact ⟨_, rfl, hE9, A, c, rfl, ho.mono hs⟩
  obtain ⟨A9, c9, rfl⟩ : ∃ A c, v = .slice A (maxB a k).length c := by
    obtain ⟨_, _, _, A, c, h, _⟩ := hv
    exact ⟨A, c, h⟩
  clear hv
  simp only [Act.put, List.setIfInBounds_toArray, List.set_cons_succ, List.set_cons_zero]
  repeat (first | (apply wpR_one; (case ho => (simp only [List.getElem?_toArray, List.getElem?_cons_succ, List.getElem?_cons_zero]; try exact rfl)); (case hw => rfl); (case hl => rfl); (case hsp => rfl); (case he => rfl); (case hv => (intro w' hw'; (try (have hw2 := Ext.trans hEW hw')); (try (have hw3 := Exc.trans hEW hw')); (try (have hw4 := Exk.trans hEW hw')); (try (have hw5 := Mrk.trans hEW hw')); go_simp; exact rfl)); (case hw0 => (first | exact Below.refl _ _ | exact Exc.of_ext (Below.refl _ _) | exact Exk.of_ext (Below.refl _ _) | exact Mrk.of_ext (Below.refl _ _))); simp only [Act.put, List.setIfInBounds_toArray, List.set_cons_succ, List.set_cons_zero]) | (apply wpR_early; (case ho => (simp only [List.getElem?_toArray, List.getElem?_cons_succ, List.getElem?_cons_zero]; try exact rfl)); (case hw => rfl); (case hl => rfl); (case hsp => rfl); (case he => rfl); (case hv => (intro w' hw'; (try have hw2 := Ext.trans hEW hw'); go_simp; exact rfl)); simp only [Act.put, List.setIfInBounds_toArray, List.set_cons_succ, List.set_cons_zero]) | (apply wpR_pass; (case ho => (simp only [List.getElem?_toArray, List.getElem?_cons_succ, List.getElem?_cons_zero]; try exact rfl)); (case hw => rfl); (case hl => rfl); simp only [Act.put, List.setIfInBounds_toArray, List.set_cons_succ, List.set_cons_zero]))
  refine wpR_alloc (by ((simp only [List.getElem?_toArray, List.getElem?_cons_succ, List.getElem?_cons_zero]; try exact rfl))) _ rfl rfl rfl (fun V v => RgCell.lasts _ _) (fun V V' h => rfl) (fun w' hw' hK => ?_) (fun v hv => ?_)
  · have hXs := (hEW.trans hw').x.size
    unfold opAt
    go_simp
    exact upAt_value ⟨ext_alloc _ _, ⟨_, rfl, hXs, _, heap_alloc_new _ _, rfl⟩, fun _ g hg => by injection hg with hg; exact ⟨hg.symm, by simp⟩⟩
  obtain ⟨g7, rfl⟩ : ∃ g, v = .pointer (some ⟨g, 0, none⟩) := by
    obtain ⟨_, _, _, g, e, _⟩ := hv
    exact ⟨g, e⟩
  clear hv
  simp only [Act.put, List.setIfInBounds_toArray, List.set_cons_succ, List.set_cons_zero]
  refine wpR_late (by ((simp only [List.getElem?_toArray, List.getElem?_cons_succ, List.getElem?_cons_zero]; try exact rfl))) _ rfl rfl (fun V v w' w2 h he => h.ext he) (fun V V' h => by simp only [h 3 (by kernel_rfl), h 7 (by kernel_rfl)]) (fun w' hw' hK hF => ?_) (fun v hv => ?_)
  · obtain ⟨g, e8, hg8, cs, hb8, hs8⟩ := (hK 7 (by kernel_rfl)).2
    obtain rfl := ptrR_inj (show Value.pointer (some ⟨g7, 0, none⟩) = _ from e8)
    refine opAt_list rfl #[] (fun Q hQ => ?_)
    refine wpList_store_box rfl 32 _ _ rfl g7 _ rfl rfl 32 _ hb8 (by kernel_rfl) hs8 (by simp [Value.oneCell']) (fun w2 hb hg => ?_)
    exact hQ _ _ ⟨Exk.of_only hg hb8 hb (by rw [hs8]; rfl) ⟨hg8, _, _, rfl⟩, ⟨g7, rfl, hg8, hb⟩⟩
  clear hv
  apply wpR_nil
  apply hN
  intro w7 hE' hK hF
  have hx := (hEW.trans hE').x
  have k1 : SOwn 5 w6.heap.size (maxB a k) (.slice A9 (maxB a k).length c9) w7 := (hK 3).2
  obtain ⟨_, x1, x2, x3⟩ := hF
  obtain rfl := ptrR_inj (show Value.pointer (some ⟨g7, 0, none⟩) = _ from x1)
  have O3 := Lib.hid (Own.mono k1.own (B' := w.heap.size + 3) (by omega))
  have h7 : w7.heap[g7]? = some (.cells #[.slice A9 (maxB a k).length c9, .slice none 0 0, .bool false] 32) := x3
  have H7 := Lib.hid h7
  have hE2 := hX w7 hE'
  have o1 := ownsRow_exc8 O1.out hx (fun k cs _ => RgBlk.not8)
  have o2 := ownsRow_exc8 O2.out hx (fun k cs _ => RgBlk.not8)
  replace O1 := Lib.hid o1
  replace O2 := Lib.hid o2
  replace H0 := Lib.hid (hx.blk H0.out (RgBlk.notLt (by omega)))
  replace H4 := Lib.hid (hx.blk H4.out (RgBlk.notLt (by omega)))
  replace H5 := Lib.hid (hx.blk H5.out (RgBlk.notLt (by omega)))
  replace H6 := Lib.hid (hx.blk H6.out (RgBlk.notLt (by omega)))
  have hg7 : w6.heap.size ≤ g7 := x2
  have hw7 : w6.heap.size ≤ w7.heap.size := hx.size
  have hne : g6 ≠ g7 := by omega
  have hg6 := HG.out
  clear hK hN k1 x1 x2 x3 h7 hx hE hX hEW hE' hW hF0 e0 e2 o1 o2 HG
  have hE := hE2
  clear hE2
  have e2 := cell_of_row w7 w.heap.size 2 _ _ _ H0.out
  have e1 := cell_of_row w7 w.heap.size 1 _ _ _ H0.out
  simp at e2 e1
  go_wp2_with fail
  refine (cpy_any (hah.ext hE) rfl).mono ?_
  rintro e w8 ⟨A8, c8, rfl, o8, hE8⟩
  have q7 := hE8.blk H7.out
  have hfz := frozen_of_row w8 g7 1 _ _ q7
  have fo1 : w8.cell? ⟨g7, 1, none⟩ = some (.slice none 0 0) := cell_of_row _ _ _ _ _ _ q7
  have hE10 := hE.trans hE8
  have hE9 := ext_store (p := ⟨g7, 1, none⟩) hE10 (by show w.heap.size ≤ g7; omega) (.slice A8 ah.length c8)
  have hk8 : w8.grownBy (w8.setCell ⟨g7, 1, none⟩ (.slice A8 ah.length c8)) (some g7) := ⟨rfl, rfl, rfl, by simp, fun k _ hk => heap_setCell_other w8 ⟨g7, 1, none⟩ k _ (fun e => hk (by simp [e]))⟩
  have x1 := (O1.out.ext hE8).other q7 (by decide) hk8
  have x2 := (O2.out.ext hE8).other q7 (by decide) hk8
  have x3 := (O3.out.ext hE8).other q7 (by decide) hk8
  have x4 := (Own.mono o8 (show w.heap.size + 3 ≤ _ by omega)).other q7 (by decide) hk8
  have hs := heap_setCell_same w8 g7 1 _ _ (.slice A8 ah.length c8) q7
  simp only [List.setIfInBounds_toArray, List.set_cons_succ, List.set_cons_zero] at hs
  have y1 := (heap_setCell_other w8 ⟨g7, 1, none⟩ (w.heap.size + 1) (.slice A8 ah.length c8) (by show w.heap.size + 1 ≠ g7; omega)).trans (hE8.blk H4.out)
  have y2 := (heap_setCell_other w8 ⟨g7, 1, none⟩ (w.heap.size + 1 + 1) (.slice A8 ah.length c8) (by show w.heap.size + 1 + 1 ≠ g7; omega)).trans (hE8.blk H5.out)
  have y6 := (heap_setCell_other w8 ⟨g7, 1, none⟩ g6 (.slice A8 ah.length c8) (by show g6 ≠ g7; omega)).trans (hE8.blk H6.out)
  have HX := Lib.hid (show _ ∧ _ ∧ _ ∧ _ ∧ _ ∧ _ ∧ _ ∧ _ ∧ _ from ⟨hE9, y1, y2, y6, hs, x1, x2, x3, x4⟩)
  clear hE9 y1 y2 y6 hs x1 x2 x3 x4 hE8 hE10 o8 e1 e2 hk8 q7 H0 H4 H5 H6 H7 O1 O2 O3 hE
  go_wp2
  refine wp_cut (fun W => Ext w W ∧ W.heap[w.heap.size + 1]? = some (.cells #[.slice none 0 0, .slice none 0 0, .bool false] 32) ∧ W.heap[w.heap.size + 1 + 1]? = some (.cells #[.slice none 0 0, .slice none 0 0, .bool false] 32) ∧ W.heap[g6]? = some (.cells #[.slice A1 a.length c1, .slice A7 (minB ah k).length c7, .bool false] 32) ∧ W.heap[g7]? = some (.cells #[.slice A9 (maxB a k).length c9, .slice A8 ah.length c8, .bool false] 32) ∧ Own 5 (w.heap.size + 3) W A1 c1 a ∧ Own 5 (w.heap.size + 3) W A7 c7 (minB ah k) ∧ Own 5 (w.heap.size + 3) W A9 c9 (maxB a k) ∧ Own 5 (w.heap.size + 3) W A8 c8 ah) HX.out ?_
  clear HX fo1 hfz
  rintro w11 ⟨hE, h4, h5, h6, h7, o1, o2, o3, o4⟩
  have H6 := Lib.hid h6
  have H7 := Lib.hid h7
  have H4 := Lib.hid h4
  have H5 := Lib.hid h5
  have O1 := Lib.hid o1
  have O2 := Lib.hid o2
  have O3 := Lib.hid o3
  have O4 := Lib.hid o4
  clear h4 h5 h6 h7 o1 o2 o3 o4
  refine wp_region_rg (Exc (fun k _ => k = w.heap.size + 1 ∨ k = w.heap.size + 1 + 1)) (rel_exc _) (fun w' => w'.heap[w.heap.size + 1]? = some (.cells #[.slice none 0 0, .slice none 0 0, .bool false] 32) ∧ w'.heap[w.heap.size + 1 + 1]? = some (.cells #[.slice none 0 0, .slice none 0 0, .bool false] 32)) [0, 1, 2, 3] (fun _ => none) (fun i => match i with
    | 2 => some fun _ _ w' => w'.heap[w.heap.size + 1]? = some (.cells #[.slice A1 a.length c1, .slice A7 (minB ah k).length c7, .bool false] 32) ∧ w'.heap[w.heap.size + 1 + 1]? = some (.cells #[.slice none 0 0, .slice none 0 0, .bool false] 32)
    | 3 => some fun _ _ w' => w'.heap[w.heap.size + 1]? = some (.cells #[.slice A1 a.length c1, .slice A7 (minB ah k).length c7, .bool false] 32) ∧ w'.heap[w.heap.size + 1 + 1]? = some (.cells #[.slice A9 (maxB a k).length c9, .slice A8 ah.length c8, .bool false] 32)
    | _ => none) (fun _ => false) (by kernel_rfl) (by kernel_rfl) (fun _ _ h he => ⟨he.blk h.1, he.blk h.2⟩) ⟨H4.out, H5.out⟩ (fun W N hW hF0 hN => ?_)
  have hEW : Exc (fun k _ => k = w.heap.size + 1 ∨ k = w.heap.size + 1 + 1) w11 W := Exc.of_ext hW
  have x0 : ∀ w', Exc (fun k _ => k = w.heap.size + 1 ∨ k = w.heap.size + 1 + 1) w11 w' → w'.cell? ⟨g6, 0, none⟩ = some (.slice A1 a.length c1) := fun w' h => cell_of_row _ _ _ _ _ _ (h.blk H6.out (by omega))
  have x1 : ∀ w', Exc (fun k _ => k = w.heap.size + 1 ∨ k = w.heap.size + 1 + 1) w11 w' → w'.cell? ⟨g6, 1, none⟩ = some (.slice A7 (minB ah k).length c7) := fun w' h => cell_of_row _ _ _ _ _ _ (h.blk H6.out (by omega))
  have x2 : ∀ w', Exc (fun k _ => k = w.heap.size + 1 ∨ k = w.heap.size + 1 + 1) w11 w' → w'.cell? ⟨g6, 2, none⟩ = some (.bool false) := fun w' h => cell_of_row _ _ _ _ _ _ (h.blk H6.out (by omega))
  have y0 : ∀ w', Exc (fun k _ => k = w.heap.size + 1 ∨ k = w.heap.size + 1 + 1) w11 w' → w'.cell? ⟨g7, 0, none⟩ = some (.slice A9 (maxB a k).length c9) := fun w' h => cell_of_row _ _ _ _ _ _ (h.blk H7.out (by omega))
  have y1 : ∀ w', Exc (fun k _ => k = w.heap.size + 1 ∨ k = w.heap.size + 1 + 1) w11 w' → w'.cell? ⟨g7, 1, none⟩ = some (.slice A8 ah.length c8) := fun w' h => cell_of_row _ _ _ _ _ _ (h.blk H7.out (by omega))
  have y2 : ∀ w', Exc (fun k _ => k = w.heap.size + 1 ∨ k = w.heap.size + 1 + 1) w11 w' → w'.cell? ⟨g7, 2, none⟩ = some (.bool false) := fun w' h => cell_of_row _ _ _ _ _ _ (h.blk H7.out (by omega))
  repeat (first | (apply wpR_one; (case ho => (simp only [List.getElem?_toArray, List.getElem?_cons_succ, List.getElem?_cons_zero]; try exact rfl)); (case hw => rfl); (case hl => rfl); (case hsp => rfl); (case he => rfl); (case hv => (intro w' hw'; (try (have hw2 := Ext.trans hEW hw')); (try (have hw3 := Exc.trans hEW hw')); (try (have hw4 := Exk.trans hEW hw')); (try (have hw5 := Mrk.trans hEW hw')); go_simp; exact rfl)); (case hw0 => (first | exact Below.refl _ _ | exact Exc.of_ext (Below.refl _ _) | exact Exk.of_ext (Below.refl _ _) | exact Mrk.of_ext (Below.refl _ _))); simp only [Act.put, List.setIfInBounds_toArray, List.set_cons_succ, List.set_cons_zero]) | (apply wpR_early; (case ho => (simp only [List.getElem?_toArray, List.getElem?_cons_succ, List.getElem?_cons_zero]; try exact rfl)); (case hw => rfl); (case hl => rfl); (case hsp => rfl); (case he => rfl); (case hv => (intro w' hw'; (try have hw2 := Ext.trans hEW hw'); go_simp; exact rfl)); simp only [Act.put, List.setIfInBounds_toArray, List.set_cons_succ, List.set_cons_zero]) | (apply wpR_pass; (case ho => (simp only [List.getElem?_toArray, List.getElem?_cons_succ, List.getElem?_cons_zero]; try exact rfl)); (case hw => rfl); (case hl => rfl); simp only [Act.put, List.setIfInBounds_toArray, List.set_cons_succ, List.set_cons_zero]))
  refine wpR_late (by ((simp only [List.getElem?_toArray, List.getElem?_cons_succ, List.getElem?_cons_zero]; try exact rfl))) _ rfl rfl (fun V v w' w2 h he => ⟨he.blk h.1, he.blk h.2⟩) (fun V V' h => rfl) (fun w' hw' hK hF => ?_) (fun v hv => ?_)
  · refine opAt_list rfl #[] (fun Q hQ => ?_)
    refine wpList_store_box rfl 32 _ _ rfl (w.heap.size + 1) _ rfl rfl 32 _ hF.1 (by kernel_rfl) rfl (by simp [Value.oneCell']) (fun w2 hb hg => ?_)
    exact hQ _ _ ⟨Exc.of_only hg (fun _ _ => .inl rfl), hb, blk_other hF.2 hg (by omega)⟩
  clear hv
  simp only [Act.put, List.setIfInBounds_toArray, List.set_cons_succ, List.set_cons_zero]
  refine wpR_late (by ((simp only [List.getElem?_toArray, List.getElem?_cons_succ, List.getElem?_cons_zero]; try exact rfl))) _ rfl rfl (fun V v w' w2 h he => ⟨he.blk h.1, he.blk h.2⟩) (fun V V' h => rfl) (fun w' hw' hK hF => ?_) (fun v hv => ?_)
  · refine opAt_list rfl #[] (fun Q hQ => ?_)
    refine wpList_store_box rfl 32 _ _ rfl (w.heap.size + 1 + 1) _ rfl rfl 32 _ hF.2 (by kernel_rfl) rfl (by simp [Value.oneCell']) (fun w2 hb hg => ?_)
    exact hQ _ _ ⟨Exc.of_only hg (fun _ _ => .inr rfl), blk_other hF.1 hg (by omega), hb⟩
  clear hv
  apply wpR_nil
  apply hN
  intro w9 hE9 hK hF
  obtain ⟨r1, r2⟩ := hF
  have hx9 := hEW.trans hE9
  have hE' : Ext w w9 := hx9.to_ext hE (fun k _ hk => by omega)
  have o1 := ownsRow_exc8 O1.out hx9 (fun k cs h1 h2 => by omega)
  have o2 := ownsRow_exc8 O2.out hx9 (fun k cs h1 h2 => by omega)
  have o3 := ownsRow_exc8 O3.out hx9 (fun k cs h1 h2 => by omega)
  have o4 := ownsRow_exc8 O4.out hx9 (fun k cs h1 h2 => by omega)
  have K1 := Lib.hid (o1.mono (B' := w.heap.size) (by omega))
  have K2 := Lib.hid (o2.mono (B' := w.heap.size) (by omega))
  have K3 := Lib.hid (o3.mono (B' := w.heap.size) (by omega))
  have K4 := Lib.hid (o4.mono (B' := w.heap.size) (by omega))
  clear hK hN x0 x1 x2 y0 y1 y2 hEW hE9 hx9 hW hF0 o1 o2 o3 o4
  go_wp2
  exact bodyPost_ret (results_rr rfl _ _ _ _ _ _ _ _ _ _ _ _ rfl r1 Try.underlying32 rfl (by kernel_rfl) rfl r2 Try.underlying32 rfl (by kernel_rfl)) rfl ⟨_, _, _, _, _, _, _, _, _, _, rfl, rfl, rfl, K1.out, K2.out, K3.out, K4.out, hE'⟩
end Go.Proofs.Ytijlaknfagpglaa
