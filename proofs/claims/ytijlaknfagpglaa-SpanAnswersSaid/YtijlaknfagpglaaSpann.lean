/- Contracts of span's Meet. No condition but that each list lies in memory as a slice. -/
import Derived.Test.YtijlaknfagpglaaSpanm
import Derived.Deep.Cut
namespace Go.Proofs.Ytijlaknfagpglaa
open Go.RowKit Go.Proofs
/-- A block of cells that lasts. -/
def BlkIs (e : TypeId) (g : Nat) (cs : Array Value) (w : World) : Prop := w.heap[g]? = some (.cells cs e (0, 0))
theorem BlkIs.stable (e : TypeId) (g : Nat) (cs : Array Value) : Stable (BlkIs e g cs) := fun _ _ h hb => Ext.blk hb h
/-- A new block with nothing in it yet. -/
def NewBlk (e : TypeId) (B : Nat) (cs : Array Value) (v : Value) (w : World) : Prop := ∃ g, v = .pointer (some ⟨g, 0, none⟩) ∧ B ≤ g ∧ BlkIs e g cs w
theorem NewBlk.stable (e : TypeId) (B : Nat) (cs : Array Value) (v : Value) : Stable (NewBlk e B cs v) := fun w w' ⟨g, h1, h2, h3⟩ hb => ⟨g, h1, h2, BlkIs.stable e g cs w w' h3 hb⟩
set_option maxRecDepth 8000 in
set_option maxHeartbeats 4000000 in
theorem meet_any {aA aB bA bB : Option Addr} {ac ad bc bd : Nat} {a ah b bh : List UInt8} {ao bo : Bool} {w : World} (ha : Sl w aA ac a) (hah : Sl w aB ad ah) (hb : Sl w bA bc b) (hbh : Sl w bB bd bh) :
    Calls Try.prog 30 #[.agg #[.slice aA a.length ac, .slice aB ah.length ad, .bool ao], .agg #[.slice bA b.length bc, .slice bB bh.length bd, .bool bo]] w fun e w' => ∃ A c B d r, r = meetB ⟨a, ah, ao⟩ ⟨b, bh, bo⟩ ∧
      e = .returned (.agg #[.slice A r.lo.length c, .slice B r.hi.length d, .bool r.op]) ∧ Own 5 w.heap.size w' A c r.lo ∧ Own 5 w.heap.size w' B d r.hi ∧ Ext w w' := by
  go_enter Try.func30, Try.ntmps30
  go_wp2
  refine wp_cut (fun W => Ext w W ∧ W.heap[w.heap.size]? = some (.cells #[.slice aA a.length ac, .slice aB ah.length ad, .bool ao] 32) ∧ W.heap[w.heap.size + 1]? = some (.cells #[.slice bA b.length bc, .slice bB bh.length bd, .bool bo] 32) ∧ W.heap[w.heap.size + 1 + 1]? = some (.cells #[.slice none 0 0, .slice none 0 0, .bool false] 32)) ⟨((ext_alloc _ _).trans (ext_alloc _ _)).trans (ext_alloc _ _), (ext_alloc _ _).blk (heap_alloc2_old _ _ _), (ext_alloc _ _).blk (heap_alloc2_new _ _ _), by rw [show w.heap.size + 1 + 1 = ((w.alloc _).alloc _).heap.size by simp]; exact heap_alloc_new _ _⟩ ?_
  rintro w1 ⟨hE, hb1, hb2, hb3⟩
  have hlt3 := (Array.getElem?_eq_some_iff.1 hb3).1
  refine wp_region_mild 13 (fun i => match i with
    | 4 => some fun _ v w' => SOwn 5 w1.heap.size (maxB a b) v w'
    | 12 => some fun _ v w' => NewBlk 32 w1.heap.size #[.slice none 0 0, .slice none 0 0, .bool false] v w'
    | _ => none) (by kernel_rfl) (by kernel_rfl) (fun W N hW hN => ?_)
  have hE1 := hE.trans hW
  have ea0 : ∀ w', Ext W w' → w'.cell? ⟨w.heap.size, 0, none⟩ = some (.slice aA a.length ac) := fun w' h => cell_of_row _ _ _ _ _ _ ((hW.trans h).blk hb1)
  have ea2 : ∀ w', Ext W w' → w'.cell? ⟨w.heap.size, 2, none⟩ = some (.bool ao) := fun w' h => cell_of_row _ _ _ _ _ _ ((hW.trans h).blk hb1)
  have eb0 : ∀ w', Ext W w' → w'.cell? ⟨w.heap.size + 1, 0, none⟩ = some (.slice bA b.length bc) := fun w' h => cell_of_row _ _ _ _ _ _ ((hW.trans h).blk hb2)
  have eb2 : ∀ w', Ext W w' → w'.cell? ⟨w.heap.size + 1, 2, none⟩ = some (.bool bo) := fun w' h => cell_of_row _ _ _ _ _ _ ((hW.trans h).blk hb2)
  cases ao <;> cases bo
  · simp only [List.take_succ_cons, List.take_zero]
    repeat (first | (apply wpM_one; (case hg => rfl); (case hsp => rfl); (case hv => (intro w' hw'; go_simp; exact rfl)); simp only [Act.put, List.setIfInBounds_toArray, List.set_cons_succ, List.set_cons_zero]; try simp only [wrap_zero]) | (apply wpM_oneG; (case hw => rfl); (case hsp => rfl); (case hv => (intro w' hw'; go_simp; exact rfl)); simp only [Act.put, List.setIfInBounds_toArray, List.set_cons_succ, List.set_cons_zero]; try simp only [wrap_zero]) | (apply wpM_pass; (case hw => rfl); simp only [Act.put, List.setIfInBounds_toArray, List.set_cons_succ, List.set_cons_zero]; try simp only [wrap_zero]))
    refine wpM_new _ rfl rfl (fun V v => SOwn.stable _ _ _ _) (fun V V' h => rfl) (fun w' hw' hK => ?_) (fun v hv => ?_)
    · unfold mildAt; go_simp; rw [mildUpon_enter]
      refine ⟨Below.refl _ _, (more_any (ha.ext (hE1.trans hw')) (hb.ext (hE1.trans hw')) rfl rfl).mono ?_⟩
      rintro e w2 ⟨A, c, rfl, ho, hE2⟩
      exact ⟨_, rfl, hE2, A, c, rfl, ho.mono (hW.trans hw').size⟩
    obtain ⟨_, _, _, A1, c1, rfl, _⟩ := hv
    simp only [Act.put, List.setIfInBounds_toArray, List.set_cons_succ, List.set_cons_zero]
    repeat (first | (apply wpM_one; (case hg => rfl); (case hsp => rfl); (case hv => (intro w' hw'; go_simp; exact rfl)); simp only [Act.put, List.setIfInBounds_toArray, List.set_cons_succ, List.set_cons_zero]; try simp only [wrap_zero]) | (apply wpM_oneG; (case hw => rfl); (case hsp => rfl); (case hv => (intro w' hw'; go_simp; exact rfl)); simp only [Act.put, List.setIfInBounds_toArray, List.set_cons_succ, List.set_cons_zero]; try simp only [wrap_zero]) | (apply wpM_pass; (case hw => rfl); simp only [Act.put, List.setIfInBounds_toArray, List.set_cons_succ, List.set_cons_zero]; try simp only [wrap_zero]))
    refine wpM_new _ rfl rfl (fun V v => NewBlk.stable _ _ _ _) (fun V V' h => rfl) (fun w' hw' hK => ?_) (fun v hv => ?_)
    · unfold mildAt
      go_simp
      rw [mildUpon_value]
      exact ⟨ext_alloc _ _, _, rfl, (hW.trans hw').size, heap_alloc_new _ _⟩
    obtain ⟨_, _, _, g5, rfl, _⟩ := hv
    simp only [Act.put, List.setIfInBounds_toArray, List.set_cons_succ, List.set_cons_zero]
    apply wpM_nil
    apply hN
    intro w5 hE5 hK
    have k4 := (hK 4).2
    obtain ⟨g5', hg5, hgB, hblk⟩ := (hK 12).2
    obtain rfl : g5 = g5' := by injection hg5 with h; injection h with h; injection h
    clear hK hN hg5 ea0 ea2 eb0 eb2
    have hE15 := hW.trans hE5
    clear hE5 hW
    have HMX := Lib.hid k4.own
    clear k4
    simp only [List.drop_succ_cons, List.drop_zero]
    refine wpList_store_box rfl 32 _ _ rfl g5 _ rfl rfl 32 _ hblk (by kernel_rfl) rfl (by simp [Value.oneCell']) (fun w6 hb6 hg6 => ?_)
    have o6 := HMX.out.other hblk (by decide) hg6
    have hEz := ext_only hE15 hg6 hgB
    have hE6 := hE.trans hEz
    have r1 := hEz.blk hb1
    have r2 := hEz.blk hb2
    have r3 := hEz.blk hb3
    clear hblk hg6 hE15 HMX hE1
    have fa1 : w6.cell? ⟨w.heap.size, 1, none⟩ = some (.slice aB ah.length ad) := cell_of_row _ _ _ _ _ _ r1
    have fa2 : w6.cell? ⟨w.heap.size, 2, none⟩ = some (.bool false) := cell_of_row _ _ _ _ _ _ r1
    have fb1 : w6.cell? ⟨w.heap.size + 1, 1, none⟩ = some (.slice bB bh.length bd) := cell_of_row _ _ _ _ _ _ r2
    have fb2 : w6.cell? ⟨w.heap.size + 1, 2, none⟩ = some (.bool false) := cell_of_row _ _ _ _ _ _ r2
    have fo0 : w6.cell? ⟨g5, 0, none⟩ = some (.slice A1 (maxB a b).length c1) := cell_of_row _ _ _ _ _ _ hb6
    have fo1 : w6.cell? ⟨g5, 1, none⟩ = some (.slice none 0 0) := cell_of_row _ _ _ _ _ _ hb6
    have fo2 : w6.cell? ⟨g5, 2, none⟩ = some (.bool false) := cell_of_row _ _ _ _ _ _ hb6
    go_wp2_with fail
    refine (less_any (hah.ext hE6) (hbh.ext hE6) rfl rfl).mono ?_
    rintro e w7 ⟨A7, c7, rfl, o7, hE7⟩
    have q6 := hE7.blk hb6
    have o67 := o6.ext hE7
    have hE17 := hEz.trans hE7
    have hfo0 := hE7.cell fo0
    have hfo1 := hE7.cell fo1
    have hfo2 := hE7.cell fo2
    have hfz := frozen_of_row w7 g5 1 _ _ q6
    have hE8 := ext_store (p := ⟨g5, 1, none⟩) (hE6.trans hE7) (Nat.le_trans hE.size hgB) (.slice A7 (minB ah bh).length c7)
    have hE18 := ext_store (p := ⟨g5, 1, none⟩) hE17 hgB (.slice A7 (minB ah bh).length c7)
    have q8 : (w7.setCell ⟨g5, 1, none⟩ (.slice A7 (minB ah bh).length c7)).grownBy _ (some g5) := World.grownBy.refl _ _
    have hk8 : w7.grownBy (w7.setCell ⟨g5, 1, none⟩ (.slice A7 (minB ah bh).length c7)) (some g5) := ⟨rfl, rfl, rfl, by simp, fun k _ hk => heap_setCell_other w7 ⟨g5, 1, none⟩ k _ (fun e => hk (by simp [e]))⟩
    have o8 := o67.other q6 (by decide) hk8
    have p8 := o7.other q6 (by decide) hk8
    have hr3 := hE18.blk hb3
    clear hEz hE17 o67 o7 o6 hE7 q8 fo0 fo1 fo2 fa1 fa2 fb1 fb2
    go_wp2_with (refine wpList_store_box rfl 32 _ _ rfl (w.heap.size + 1 + 1) _ rfl rfl 32 _ hr3 (by kernel_rfl) rfl (by simp [Value.oneCell']) ?_; intro w9 hb9 hg9)
    have o9 := (o8.other hr3 (by decide) hg9).mono hE.size
    have p9 := (p8.other hr3 (by decide) hg9).mono hE6.size
    have hE9 := ext_only hE8 hg9 (by omega)
    go_wp2
    exact bodyPost_ret (results_cell_row rfl _ _ _ _ _ _ _ rfl hb9 Try.underlying32 rfl (by kernel_rfl)) rfl ⟨_, _, _, _, _, rfl, rfl, o9, p9, hE9⟩
  · simp only [List.take_succ_cons, List.take_zero]
    repeat (first | (apply wpM_one; (case hg => rfl); (case hsp => rfl); (case hv => (intro w' hw'; go_simp; exact rfl)); simp only [Act.put, List.setIfInBounds_toArray, List.set_cons_succ, List.set_cons_zero]; try simp only [wrap_zero]) | (apply wpM_oneG; (case hw => rfl); (case hsp => rfl); (case hv => (intro w' hw'; go_simp; exact rfl)); simp only [Act.put, List.setIfInBounds_toArray, List.set_cons_succ, List.set_cons_zero]; try simp only [wrap_zero]) | (apply wpM_pass; (case hw => rfl); simp only [Act.put, List.setIfInBounds_toArray, List.set_cons_succ, List.set_cons_zero]; try simp only [wrap_zero]))
    refine wpM_new _ rfl rfl (fun V v => SOwn.stable _ _ _ _) (fun V V' h => rfl) (fun w' hw' hK => ?_) (fun v hv => ?_)
    · unfold mildAt; go_simp; rw [mildUpon_enter]
      refine ⟨Below.refl _ _, (more_any (ha.ext (hE1.trans hw')) (hb.ext (hE1.trans hw')) rfl rfl).mono ?_⟩
      rintro e w2 ⟨A, c, rfl, ho, hE2⟩
      exact ⟨_, rfl, hE2, A, c, rfl, ho.mono (hW.trans hw').size⟩
    obtain ⟨_, _, _, A1, c1, rfl, _⟩ := hv
    simp only [Act.put, List.setIfInBounds_toArray, List.set_cons_succ, List.set_cons_zero]
    repeat (first | (apply wpM_one; (case hg => rfl); (case hsp => rfl); (case hv => (intro w' hw'; go_simp; exact rfl)); simp only [Act.put, List.setIfInBounds_toArray, List.set_cons_succ, List.set_cons_zero]; try simp only [wrap_zero]) | (apply wpM_oneG; (case hw => rfl); (case hsp => rfl); (case hv => (intro w' hw'; go_simp; exact rfl)); simp only [Act.put, List.setIfInBounds_toArray, List.set_cons_succ, List.set_cons_zero]; try simp only [wrap_zero]) | (apply wpM_pass; (case hw => rfl); simp only [Act.put, List.setIfInBounds_toArray, List.set_cons_succ, List.set_cons_zero]; try simp only [wrap_zero]))
    refine wpM_new _ rfl rfl (fun V v => NewBlk.stable _ _ _ _) (fun V V' h => rfl) (fun w' hw' hK => ?_) (fun v hv => ?_)
    · unfold mildAt
      go_simp
      rw [mildUpon_value]
      exact ⟨ext_alloc _ _, _, rfl, (hW.trans hw').size, heap_alloc_new _ _⟩
    obtain ⟨_, _, _, g5, rfl, _⟩ := hv
    simp only [Act.put, List.setIfInBounds_toArray, List.set_cons_succ, List.set_cons_zero]
    apply wpM_nil
    apply hN
    intro w5 hE5 hK
    have k4 := (hK 4).2
    obtain ⟨g5', hg5, hgB, hblk⟩ := (hK 12).2
    obtain rfl : g5 = g5' := by injection hg5 with h; injection h with h; injection h
    clear hK hN hg5 ea0 ea2 eb0 eb2
    have hE15 := hW.trans hE5
    clear hE5 hW
    have HMX := Lib.hid k4.own
    clear k4
    simp only [List.drop_succ_cons, List.drop_zero]
    refine wpList_store_box rfl 32 _ _ rfl g5 _ rfl rfl 32 _ hblk (by kernel_rfl) rfl (by simp [Value.oneCell']) (fun w6 hb6 hg6 => ?_)
    have o6 := HMX.out.other hblk (by decide) hg6
    have hEz := ext_only hE15 hg6 hgB
    have hE6 := hE.trans hEz
    have r1 := hEz.blk hb1
    have r2 := hEz.blk hb2
    have r3 := hEz.blk hb3
    clear hblk hg6 hE15 HMX hE1
    have fa1 : w6.cell? ⟨w.heap.size, 1, none⟩ = some (.slice aB ah.length ad) := cell_of_row _ _ _ _ _ _ r1
    have fa2 : w6.cell? ⟨w.heap.size, 2, none⟩ = some (.bool false) := cell_of_row _ _ _ _ _ _ r1
    have fb1 : w6.cell? ⟨w.heap.size + 1, 1, none⟩ = some (.slice bB bh.length bd) := cell_of_row _ _ _ _ _ _ r2
    have fb2 : w6.cell? ⟨w.heap.size + 1, 2, none⟩ = some (.bool true) := cell_of_row _ _ _ _ _ _ r2
    have fo0 : w6.cell? ⟨g5, 0, none⟩ = some (.slice A1 (maxB a b).length c1) := cell_of_row _ _ _ _ _ _ hb6
    have fo1 : w6.cell? ⟨g5, 1, none⟩ = some (.slice none 0 0) := cell_of_row _ _ _ _ _ _ hb6
    have fo2 : w6.cell? ⟨g5, 2, none⟩ = some (.bool false) := cell_of_row _ _ _ _ _ _ hb6
    go_wp2_with fail
    refine (fresh0_any (hah.ext hE6) rfl).mono ?_
    rintro e w7 ⟨g7, rfl, hg7, hk7, hE7⟩
    have o7 := hk7.whole hg7 (by have := hah.len; omega)
    clear hk7 hg7
    obtain ⟨A7, hA7⟩ : ∃ A7, A7 = (some ⟨g7, 0, none⟩ : Option Addr) := ⟨_, rfl⟩
    obtain ⟨c7, hc7⟩ : ∃ c7, c7 = ah.length := ⟨_, rfl⟩
    have q6 := hE7.blk hb6
    have o67 := o6.ext hE7
    have hE17 := hEz.trans hE7
    have hfo0 := hE7.cell fo0
    have hfo1 := hE7.cell fo1
    have hfo2 := hE7.cell fo2
    have hfz := frozen_of_row w7 g5 1 _ _ q6
    have hE8 := ext_store (p := ⟨g5, 1, none⟩) (hE6.trans hE7) (Nat.le_trans hE.size hgB) (.slice (some ⟨g7, 0, none⟩) ah.length ah.length)
    have hE18 := ext_store (p := ⟨g5, 1, none⟩) hE17 hgB (.slice (some ⟨g7, 0, none⟩) ah.length ah.length)
    have q8 : (w7.setCell ⟨g5, 1, none⟩ (.slice (some ⟨g7, 0, none⟩) ah.length ah.length)).grownBy _ (some g5) := World.grownBy.refl _ _
    have hk8 : w7.grownBy (w7.setCell ⟨g5, 1, none⟩ (.slice (some ⟨g7, 0, none⟩) ah.length ah.length)) (some g5) := ⟨rfl, rfl, rfl, by simp, fun k _ hk => heap_setCell_other w7 ⟨g5, 1, none⟩ k _ (fun e => hk (by simp [e]))⟩
    have o8 := o67.other q6 (by decide) hk8
    have p8 := o7.other q6 (by decide) hk8
    have hr3 := hE18.blk hb3
    clear hEz hE17 o67 o7 o6 hE7 q8 fo0 fo1 fo2 fa1 fa2 fb1 fb2
    go_wp2_with (refine wpList_store_box rfl 32 _ _ rfl (w.heap.size + 1 + 1) _ rfl rfl 32 _ hr3 (by kernel_rfl) rfl (by simp [Value.oneCell']) ?_; intro w9 hb9 hg9)
    have o9 := (o8.other hr3 (by decide) hg9).mono hE.size
    have p9 := (p8.other hr3 (by decide) hg9).mono hE6.size
    have hE9 := ext_only hE8 hg9 (by omega)
    go_wp2
    exact bodyPost_ret (results_cell_row rfl _ _ _ _ _ _ _ rfl hb9 Try.underlying32 rfl (by kernel_rfl)) rfl ⟨_, _, _, _, _, rfl, rfl, o9, p9, hE9⟩
  · simp only [List.take_succ_cons, List.take_zero]
    repeat (first | (apply wpM_one; (case hg => rfl); (case hsp => rfl); (case hv => (intro w' hw'; go_simp; exact rfl)); simp only [Act.put, List.setIfInBounds_toArray, List.set_cons_succ, List.set_cons_zero]; try simp only [wrap_zero]) | (apply wpM_oneG; (case hw => rfl); (case hsp => rfl); (case hv => (intro w' hw'; go_simp; exact rfl)); simp only [Act.put, List.setIfInBounds_toArray, List.set_cons_succ, List.set_cons_zero]; try simp only [wrap_zero]) | (apply wpM_pass; (case hw => rfl); simp only [Act.put, List.setIfInBounds_toArray, List.set_cons_succ, List.set_cons_zero]; try simp only [wrap_zero]))
    refine wpM_new _ rfl rfl (fun V v => SOwn.stable _ _ _ _) (fun V V' h => rfl) (fun w' hw' hK => ?_) (fun v hv => ?_)
    · unfold mildAt; go_simp; rw [mildUpon_enter]
      refine ⟨Below.refl _ _, (more_any (ha.ext (hE1.trans hw')) (hb.ext (hE1.trans hw')) rfl rfl).mono ?_⟩
      rintro e w2 ⟨A, c, rfl, ho, hE2⟩
      exact ⟨_, rfl, hE2, A, c, rfl, ho.mono (hW.trans hw').size⟩
    obtain ⟨_, _, _, A1, c1, rfl, _⟩ := hv
    simp only [Act.put, List.setIfInBounds_toArray, List.set_cons_succ, List.set_cons_zero]
    repeat (first | (apply wpM_one; (case hg => rfl); (case hsp => rfl); (case hv => (intro w' hw'; go_simp; exact rfl)); simp only [Act.put, List.setIfInBounds_toArray, List.set_cons_succ, List.set_cons_zero]; try simp only [wrap_zero]) | (apply wpM_oneG; (case hw => rfl); (case hsp => rfl); (case hv => (intro w' hw'; go_simp; exact rfl)); simp only [Act.put, List.setIfInBounds_toArray, List.set_cons_succ, List.set_cons_zero]; try simp only [wrap_zero]) | (apply wpM_pass; (case hw => rfl); simp only [Act.put, List.setIfInBounds_toArray, List.set_cons_succ, List.set_cons_zero]; try simp only [wrap_zero]))
    refine wpM_new _ rfl rfl (fun V v => NewBlk.stable _ _ _ _) (fun V V' h => rfl) (fun w' hw' hK => ?_) (fun v hv => ?_)
    · unfold mildAt
      go_simp
      rw [mildUpon_value]
      exact ⟨ext_alloc _ _, _, rfl, (hW.trans hw').size, heap_alloc_new _ _⟩
    obtain ⟨_, _, _, g5, rfl, _⟩ := hv
    simp only [Act.put, List.setIfInBounds_toArray, List.set_cons_succ, List.set_cons_zero]
    apply wpM_nil
    apply hN
    intro w5 hE5 hK
    have k4 := (hK 4).2
    obtain ⟨g5', hg5, hgB, hblk⟩ := (hK 12).2
    obtain rfl : g5 = g5' := by injection hg5 with h; injection h with h; injection h
    clear hK hN hg5 ea0 ea2 eb0 eb2
    have hE15 := hW.trans hE5
    clear hE5 hW
    have HMX := Lib.hid k4.own
    clear k4
    simp only [List.drop_succ_cons, List.drop_zero]
    refine wpList_store_box rfl 32 _ _ rfl g5 _ rfl rfl 32 _ hblk (by kernel_rfl) rfl (by simp [Value.oneCell']) (fun w6 hb6 hg6 => ?_)
    have o6 := HMX.out.other hblk (by decide) hg6
    have hEz := ext_only hE15 hg6 hgB
    have hE6 := hE.trans hEz
    have r1 := hEz.blk hb1
    have r2 := hEz.blk hb2
    have r3 := hEz.blk hb3
    clear hblk hg6 hE15 HMX hE1
    have fa1 : w6.cell? ⟨w.heap.size, 1, none⟩ = some (.slice aB ah.length ad) := cell_of_row _ _ _ _ _ _ r1
    have fa2 : w6.cell? ⟨w.heap.size, 2, none⟩ = some (.bool true) := cell_of_row _ _ _ _ _ _ r1
    have fb1 : w6.cell? ⟨w.heap.size + 1, 1, none⟩ = some (.slice bB bh.length bd) := cell_of_row _ _ _ _ _ _ r2
    have fb2 : w6.cell? ⟨w.heap.size + 1, 2, none⟩ = some (.bool false) := cell_of_row _ _ _ _ _ _ r2
    have fo0 : w6.cell? ⟨g5, 0, none⟩ = some (.slice A1 (maxB a b).length c1) := cell_of_row _ _ _ _ _ _ hb6
    have fo1 : w6.cell? ⟨g5, 1, none⟩ = some (.slice none 0 0) := cell_of_row _ _ _ _ _ _ hb6
    have fo2 : w6.cell? ⟨g5, 2, none⟩ = some (.bool false) := cell_of_row _ _ _ _ _ _ hb6
    go_wp2_with fail
    refine (fresh0_any (hbh.ext hE6) rfl).mono ?_
    rintro e w7 ⟨g7, rfl, hg7, hk7, hE7⟩
    have o7 := hk7.whole hg7 (by have := hbh.len; omega)
    clear hk7 hg7
    obtain ⟨A7, hA7⟩ : ∃ A7, A7 = (some ⟨g7, 0, none⟩ : Option Addr) := ⟨_, rfl⟩
    obtain ⟨c7, hc7⟩ : ∃ c7, c7 = bh.length := ⟨_, rfl⟩
    have q6 := hE7.blk hb6
    have o67 := o6.ext hE7
    have hE17 := hEz.trans hE7
    have hfo0 := hE7.cell fo0
    have hfo1 := hE7.cell fo1
    have hfo2 := hE7.cell fo2
    have hfz := frozen_of_row w7 g5 1 _ _ q6
    have hE8 := ext_store (p := ⟨g5, 1, none⟩) (hE6.trans hE7) (Nat.le_trans hE.size hgB) (.slice (some ⟨g7, 0, none⟩) bh.length bh.length)
    have hE18 := ext_store (p := ⟨g5, 1, none⟩) hE17 hgB (.slice (some ⟨g7, 0, none⟩) bh.length bh.length)
    have q8 : (w7.setCell ⟨g5, 1, none⟩ (.slice (some ⟨g7, 0, none⟩) bh.length bh.length)).grownBy _ (some g5) := World.grownBy.refl _ _
    have hk8 : w7.grownBy (w7.setCell ⟨g5, 1, none⟩ (.slice (some ⟨g7, 0, none⟩) bh.length bh.length)) (some g5) := ⟨rfl, rfl, rfl, by simp, fun k _ hk => heap_setCell_other w7 ⟨g5, 1, none⟩ k _ (fun e => hk (by simp [e]))⟩
    have o8 := o67.other q6 (by decide) hk8
    have p8 := o7.other q6 (by decide) hk8
    have hr3 := hE18.blk hb3
    clear hEz hE17 o67 o7 o6 hE7 q8 fo0 fo1 fo2 fa1 fa2 fb1 fb2
    go_wp2_with (refine wpList_store_box rfl 32 _ _ rfl (w.heap.size + 1 + 1) _ rfl rfl 32 _ hr3 (by kernel_rfl) rfl (by simp [Value.oneCell']) ?_; intro w9 hb9 hg9)
    have o9 := (o8.other hr3 (by decide) hg9).mono hE.size
    have p9 := (p8.other hr3 (by decide) hg9).mono hE6.size
    have hE9 := ext_only hE8 hg9 (by omega)
    go_wp2
    exact bodyPost_ret (results_cell_row rfl _ _ _ _ _ _ _ rfl hb9 Try.underlying32 rfl (by kernel_rfl)) rfl ⟨_, _, _, _, _, rfl, rfl, o9, p9, hE9⟩
  · simp only [List.take_succ_cons, List.take_zero]
    repeat (first | (apply wpM_one; (case hg => rfl); (case hsp => rfl); (case hv => (intro w' hw'; go_simp; exact rfl)); simp only [Act.put, List.setIfInBounds_toArray, List.set_cons_succ, List.set_cons_zero]; try simp only [wrap_zero]) | (apply wpM_oneG; (case hw => rfl); (case hsp => rfl); (case hv => (intro w' hw'; go_simp; exact rfl)); simp only [Act.put, List.setIfInBounds_toArray, List.set_cons_succ, List.set_cons_zero]; try simp only [wrap_zero]) | (apply wpM_pass; (case hw => rfl); simp only [Act.put, List.setIfInBounds_toArray, List.set_cons_succ, List.set_cons_zero]; try simp only [wrap_zero]))
    refine wpM_new _ rfl rfl (fun V v => SOwn.stable _ _ _ _) (fun V V' h => rfl) (fun w' hw' hK => ?_) (fun v hv => ?_)
    · unfold mildAt; go_simp; rw [mildUpon_enter]
      refine ⟨Below.refl _ _, (more_any (ha.ext (hE1.trans hw')) (hb.ext (hE1.trans hw')) rfl rfl).mono ?_⟩
      rintro e w2 ⟨A, c, rfl, ho, hE2⟩
      exact ⟨_, rfl, hE2, A, c, rfl, ho.mono (hW.trans hw').size⟩
    obtain ⟨_, _, _, A1, c1, rfl, _⟩ := hv
    simp only [Act.put, List.setIfInBounds_toArray, List.set_cons_succ, List.set_cons_zero]
    repeat (first | (apply wpM_one; (case hg => rfl); (case hsp => rfl); (case hv => (intro w' hw'; go_simp; exact rfl)); simp only [Act.put, List.setIfInBounds_toArray, List.set_cons_succ, List.set_cons_zero]; try simp only [wrap_zero]) | (apply wpM_oneG; (case hw => rfl); (case hsp => rfl); (case hv => (intro w' hw'; go_simp; exact rfl)); simp only [Act.put, List.setIfInBounds_toArray, List.set_cons_succ, List.set_cons_zero]; try simp only [wrap_zero]) | (apply wpM_pass; (case hw => rfl); simp only [Act.put, List.setIfInBounds_toArray, List.set_cons_succ, List.set_cons_zero]; try simp only [wrap_zero]))
    refine wpM_new _ rfl rfl (fun V v => NewBlk.stable _ _ _ _) (fun V V' h => rfl) (fun w' hw' hK => ?_) (fun v hv => ?_)
    · unfold mildAt
      go_simp
      rw [mildUpon_value]
      exact ⟨ext_alloc _ _, _, rfl, (hW.trans hw').size, heap_alloc_new _ _⟩
    obtain ⟨_, _, _, g5, rfl, _⟩ := hv
    simp only [Act.put, List.setIfInBounds_toArray, List.set_cons_succ, List.set_cons_zero]
    apply wpM_nil
    apply hN
    intro w5 hE5 hK
    have k4 := (hK 4).2
    obtain ⟨g5', hg5, hgB, hblk⟩ := (hK 12).2
    obtain rfl : g5 = g5' := by injection hg5 with h; injection h with h; injection h
    clear hK hN hg5 ea0 ea2 eb0 eb2
    have hE15 := hW.trans hE5
    clear hE5 hW
    have HMX := Lib.hid k4.own
    clear k4
    simp only [List.drop_succ_cons, List.drop_zero]
    refine wpList_store_box rfl 32 _ _ rfl g5 _ rfl rfl 32 _ hblk (by kernel_rfl) rfl (by simp [Value.oneCell']) (fun w6 hb6 hg6 => ?_)
    have o6 := HMX.out.other hblk (by decide) hg6
    have hEz := ext_only hE15 hg6 hgB
    have hE6 := hE.trans hEz
    have r1 := hEz.blk hb1
    have r2 := hEz.blk hb2
    have r3 := hEz.blk hb3
    clear hblk hg6 hE15 HMX hE1
    have fa1 : w6.cell? ⟨w.heap.size, 1, none⟩ = some (.slice aB ah.length ad) := cell_of_row _ _ _ _ _ _ r1
    have fa2 : w6.cell? ⟨w.heap.size, 2, none⟩ = some (.bool true) := cell_of_row _ _ _ _ _ _ r1
    have fb1 : w6.cell? ⟨w.heap.size + 1, 1, none⟩ = some (.slice bB bh.length bd) := cell_of_row _ _ _ _ _ _ r2
    have fb2 : w6.cell? ⟨w.heap.size + 1, 2, none⟩ = some (.bool true) := cell_of_row _ _ _ _ _ _ r2
    have fo0 : w6.cell? ⟨g5, 0, none⟩ = some (.slice A1 (maxB a b).length c1) := cell_of_row _ _ _ _ _ _ hb6
    have fo1 : w6.cell? ⟨g5, 1, none⟩ = some (.slice none 0 0) := cell_of_row _ _ _ _ _ _ hb6
    have fo2 : w6.cell? ⟨g5, 2, none⟩ = some (.bool true) := cell_of_row _ _ _ _ _ _ hb6
    have hr3 := r3
    go_wp2_with (refine wpList_store_box rfl 32 _ _ rfl (w.heap.size + 1 + 1) _ rfl rfl 32 _ hr3 (by kernel_rfl) rfl (by simp [Value.oneCell']) ?_; intro w9 hb9 hg9)
    have o9 := o6.other hr3 (by decide) hg9
    have hE9 := ext_only hE6 hg9 (by omega)
    go_wp2
    exact bodyPost_ret (results_cell_row rfl _ _ _ _ _ _ _ rfl hb9 Try.underlying32 rfl (by kernel_rfl)) rfl ⟨A1, c1, none, 0, _, rfl, rfl, o9.mono hE.size, own_nil _ _ _, hE9⟩
end Go.Proofs.Ytijlaknfagpglaa
