/- Layer 5, at uint16: a call of the law's script: do. No condition but the sizes. -/
import Derived.Test.YtffapgemacbdjaaRmd
namespace Go.Proofs.Ytffapgemacbdjaa
open Go.RowKit Go.Proofs Go.Shelf
set_option linter.unusedVariables false
attribute [local go_sem] Oper.semAt_some
set_option maxRecDepth 100000 in
set_option maxHeartbeats 8000000 in
theorem do_anyd {B xb n : Nat} {s : Wk} {o : Opn} {w : World} (h : WorkAtd B xb n w s) (hok : s.Ok) (hn1 : 102 ≤ n) (hn2 : n ≤ 1000) (ho : o.In B w) :
    Calls Try.prog 49 #[.pointer (some ⟨xb, 0, none⟩), .agg o.cells] w fun e w' => ∃ s', e = .returned (.bool true) ∧ WorkAtd B xb (n + 1) w' s' ∧ s'.Ok ∧ Exc (DB B) w w' := by
  obtain ⟨who, hwho⟩ : ∃ i, slotN o.who = i := ⟨_, rfl⟩
  obtain ⟨tw, hto⟩ : ∃ i, slotN o.to = i := ⟨_, rfl⟩
  have hw3 : who < 3 := by rw [← hwho]; exact (slotN_lt _).1
  have ht3 : tw < 3 := by rw [← hto]; exact (slotN_lt _).1
  obtain ⟨lo, hlo⟩ : ∃ z, IntKind.wrap .u16 o.lo = z := ⟨_, rfl⟩
  obtain ⟨hi, hhi⟩ : ∃ z, IntKind.wrap .u16 o.hi = z := ⟨_, rfl⟩
  have hlob := kbdd o.lo
  have hhib := kbdd o.hi
  rw [hlo] at hlob
  rw [hhi] at hhib
  have hxlt := (Array.getElem?_eq_some_iff.1 h.hd).1
  have hBw : B ≤ w.heap.size := by have := h.hB; omega
  go_enter Try.func49, Try.ntmps49
  go_wp2
  refine wp_cut (fun W' => Ext w W' ∧ W'.heap[w.heap.size]? = some (.cells o.cells 89 (0, 0))) ⟨ext_alloc _ _, heap_alloc_new _ _⟩ ?_
  rintro w1 ⟨hE1, hob⟩
  have o1 : ∀ W, Ext w1 W → W.cell? ⟨w.heap.size, 1, none⟩ = some (.int .i64 o.who) := fun W h => cell_of_row _ _ _ _ _ _ (h.blk hob)
  have o2 : ∀ W, Ext w1 W → W.cell? ⟨w.heap.size, 2, none⟩ = some (.int .i64 o.to) := fun W h => cell_of_row _ _ _ _ _ _ (h.blk hob)
  refine wp_region_rg Ext rel_ext (fun _ => True) [0, 1, 2, 3, 4, 5, 6, 7] (fun i => match i with | 2 => some fun _ z _ => z = .int .i64 who | 5 => some fun _ z _ => z = .int .i64 tw | _ => none) (fun _ => none) (fun _ => false) (by kernel_rfl) (by kernel_rfl) (fun _ _ _ _ => trivial) trivial (fun W N hW _ hN => ?_)
  have hEW := hW
  repeat (first | (apply wpR_one; (case ho => (simp only [List.getElem?_toArray, List.getElem?_cons_succ, List.getElem?_cons_zero]; try exact rfl)); (case hw => rfl); (case hl => rfl); (case hsp => rfl); (case he => rfl); (case hv => (intro w' hw'; (try (have hw2 := Ext.trans hEW hw')); (try (have hw3 := Exc.trans hEW hw')); (try (have hw4 := Exk.trans hEW hw')); (try (have hw5 := Mrk.trans hEW hw')); go_simp; exact rfl)); (case hw0 => (first | exact Below.refl _ _ | exact Exc.of_ext (Below.refl _ _) | exact Exk.of_ext (Below.refl _ _) | exact Mrk.of_ext (Below.refl _ _))); simp only [Act.put, List.setIfInBounds_toArray, List.set_cons_succ, List.set_cons_zero]) | (apply wpR_early; (case ho => (simp only [List.getElem?_toArray, List.getElem?_cons_succ, List.getElem?_cons_zero]; try exact rfl)); (case hw => rfl); (case hl => rfl); (case hsp => rfl); (case he => rfl); (case hv => (intro w' hw'; (try have hw2 := Ext.trans hEW hw'); go_simp; exact rfl)); simp only [Act.put, List.setIfInBounds_toArray, List.set_cons_succ, List.set_cons_zero]) | (apply wpR_pass; (case ho => (simp only [List.getElem?_toArray, List.getElem?_cons_succ, List.getElem?_cons_zero]; try exact rfl)); (case hw => rfl); (case hl => rfl); simp only [Act.put, List.setIfInBounds_toArray, List.set_cons_succ, List.set_cons_zero]))
  refine wpR_new (by ((simp only [List.getElem?_toArray, List.getElem?_cons_succ, List.getElem?_cons_zero]; try exact rfl))) _ rfl rfl rfl (fun V v => Lasts.pure) (fun V V' h => rfl) (fun w' hw' hK => ?_) (fun z hz => ?_)
  · unfold opAt; go_simp; refine upAt_enter ?_
    refine slot_any.mono ?_
    rintro e w2 ⟨rfl, rfl⟩
    exact ⟨_, rfl, Below.refl _ _, by rw [hwho]⟩
  obtain ⟨_, _, _, rfl⟩ := hz
  simp only [Act.put, List.setIfInBounds_toArray, List.set_cons_succ, List.set_cons_zero]
  repeat (first | (apply wpR_one; (case ho => (simp only [List.getElem?_toArray, List.getElem?_cons_succ, List.getElem?_cons_zero]; try exact rfl)); (case hw => rfl); (case hl => rfl); (case hsp => rfl); (case he => rfl); (case hv => (intro w' hw'; (try (have hw2 := Ext.trans hEW hw')); (try (have hw3 := Exc.trans hEW hw')); (try (have hw4 := Exk.trans hEW hw')); (try (have hw5 := Mrk.trans hEW hw')); go_simp; exact rfl)); (case hw0 => (first | exact Below.refl _ _ | exact Exc.of_ext (Below.refl _ _) | exact Exk.of_ext (Below.refl _ _) | exact Mrk.of_ext (Below.refl _ _))); simp only [Act.put, List.setIfInBounds_toArray, List.set_cons_succ, List.set_cons_zero]) | (apply wpR_early; (case ho => (simp only [List.getElem?_toArray, List.getElem?_cons_succ, List.getElem?_cons_zero]; try exact rfl)); (case hw => rfl); (case hl => rfl); (case hsp => rfl); (case he => rfl); (case hv => (intro w' hw'; (try have hw2 := Ext.trans hEW hw'); go_simp; exact rfl)); simp only [Act.put, List.setIfInBounds_toArray, List.set_cons_succ, List.set_cons_zero]) | (apply wpR_pass; (case ho => (simp only [List.getElem?_toArray, List.getElem?_cons_succ, List.getElem?_cons_zero]; try exact rfl)); (case hw => rfl); (case hl => rfl); simp only [Act.put, List.setIfInBounds_toArray, List.set_cons_succ, List.set_cons_zero]))
  refine wpR_new (by ((simp only [List.getElem?_toArray, List.getElem?_cons_succ, List.getElem?_cons_zero]; try exact rfl))) _ rfl rfl rfl (fun V v => Lasts.pure) (fun V V' h => rfl) (fun w' hw' hK => ?_) (fun z hz => ?_)
  · unfold opAt; go_simp; refine upAt_enter ?_
    refine slot_any.mono ?_
    rintro e w2 ⟨rfl, rfl⟩
    exact ⟨_, rfl, Below.refl _ _, by rw [hto]⟩
  obtain ⟨_, _, _, rfl⟩ := hz
  simp only [Act.put, List.setIfInBounds_toArray, List.set_cons_succ, List.set_cons_zero]
  repeat (first | (apply wpR_one; (case ho => (simp only [List.getElem?_toArray, List.getElem?_cons_succ, List.getElem?_cons_zero]; try exact rfl)); (case hw => rfl); (case hl => rfl); (case hsp => rfl); (case he => rfl); (case hv => (intro w' hw'; (try (have hw2 := Ext.trans hEW hw')); (try (have hw3 := Exc.trans hEW hw')); (try (have hw4 := Exk.trans hEW hw')); (try (have hw5 := Mrk.trans hEW hw')); go_simp; exact rfl)); (case hw0 => (first | exact Below.refl _ _ | exact Exc.of_ext (Below.refl _ _) | exact Exk.of_ext (Below.refl _ _) | exact Mrk.of_ext (Below.refl _ _))); simp only [Act.put, List.setIfInBounds_toArray, List.set_cons_succ, List.set_cons_zero]) | (apply wpR_early; (case ho => (simp only [List.getElem?_toArray, List.getElem?_cons_succ, List.getElem?_cons_zero]; try exact rfl)); (case hw => rfl); (case hl => rfl); (case hsp => rfl); (case he => rfl); (case hv => (intro w' hw'; (try have hw2 := Ext.trans hEW hw'); go_simp; exact rfl)); simp only [Act.put, List.setIfInBounds_toArray, List.set_cons_succ, List.set_cons_zero]) | (apply wpR_pass; (case ho => (simp only [List.getElem?_toArray, List.getElem?_cons_succ, List.getElem?_cons_zero]; try exact rfl)); (case hw => rfl); (case hl => rfl); simp only [Act.put, List.setIfInBounds_toArray, List.set_cons_succ, List.set_cons_zero]))
  apply wpR_nil
  apply hN
  intro w2 hE2 hK _
  have hEE := hEW.trans hE2
  clear hK hN o1 o2 hW hEW hE2
  have hEw := hE1.trans hEE
  have hob2 := hEE.blk hob
  have h2 := h.ext hEw
  clear hob hE1 hEE
  have x0 : ∀ W, Ext w2 W → W.cell? ⟨xb, who, none⟩ = some (.pointer (some ⟨s.p.P who, 0, none⟩)) := fun W hh => by rw [cell_of_row _ _ _ _ _ _ (h2.ext hh).hd, wk_p s hw3]
  have x1 : ∀ W, Ext w2 W → W.cell? ⟨xb, 3 + who, none⟩ = some (.pointer (some ⟨s.r.P who, 0, none⟩)) := fun W hh => by rw [cell_of_row _ _ _ _ _ _ (h2.ext hh).hd, wk_r s hw3]
  have hwi : (who : Int) < 3 := by omega
  go_wp2
  refine wp_region_rg Ext rel_ext (fun _ => True) [0, 1, 2, 3, 4, 5, 6, 7, 8, 9, 10, 11, 12, 13] (fun _ => none) (fun _ => none) (fun _ => false) (by kernel_rfl) (by kernel_rfl) (fun _ _ _ _ => trivial) trivial (fun W N hW _ hN => ?_)
  have hEW := hW
  repeat (first | (apply wpR_one; (case ho => (simp only [List.getElem?_toArray, List.getElem?_cons_succ, List.getElem?_cons_zero]; try exact rfl)); (case hw => rfl); (case hl => rfl); (case hsp => rfl); (case he => rfl); (case hv => (intro w' hw'; (try (have hw2 := Ext.trans hEW hw')); (try (have hw3 := Exc.trans hEW hw')); (try (have hw4 := Exk.trans hEW hw')); (try (have hw5 := Mrk.trans hEW hw')); go_simp; exact rfl)); (case hw0 => (first | exact Below.refl _ _ | exact Exc.of_ext (Below.refl _ _) | exact Exk.of_ext (Below.refl _ _) | exact Mrk.of_ext (Below.refl _ _))); simp only [Act.put, List.setIfInBounds_toArray, List.set_cons_succ, List.set_cons_zero]) | (apply wpR_early; (case ho => (simp only [List.getElem?_toArray, List.getElem?_cons_succ, List.getElem?_cons_zero]; try exact rfl)); (case hw => rfl); (case hl => rfl); (case hsp => rfl); (case he => rfl); (case hv => (intro w' hw'; (try have hw2 := Ext.trans hEW hw'); go_simp; exact rfl)); simp only [Act.put, List.setIfInBounds_toArray, List.set_cons_succ, List.set_cons_zero]) | (apply wpR_pass; (case ho => (simp only [List.getElem?_toArray, List.getElem?_cons_succ, List.getElem?_cons_zero]; try exact rfl)); (case hw => rfl); (case hl => rfl); simp only [Act.put, List.setIfInBounds_toArray, List.set_cons_succ, List.set_cons_zero]))
  apply wpR_nil
  apply hN
  intro w3 hE3 hK _
  have hEE := hEW.trans hE3
  have h3 := h2.ext hEE
  have hEw3 := hEw.trans hEE
  have hob3 := hEE.blk hob2
  clear hK hN x0 x1 hW hEW hE3 hEw hob2 h2 hEE
  have o3 : ∀ W, Ext w3 W → W.cell? ⟨w.heap.size, 3, none⟩ = some (.int .i64 o.lo) := fun W h => cell_of_row _ _ _ _ _ _ (h.blk hob3)
  have o4 : ∀ W, Ext w3 W → W.cell? ⟨w.heap.size, 4, none⟩ = some (.int .i64 o.hi) := fun W h => cell_of_row _ _ _ _ _ _ (h.blk hob3)
  go_wp2
  refine wp_region_rg Ext rel_ext (fun _ => True) [0, 1, 2, 3, 4, 5, 6, 7] (fun _ => none) (fun _ => none) (fun _ => false) (by kernel_rfl) (by kernel_rfl) (fun _ _ _ _ => trivial) trivial (fun W N hW _ hN => ?_)
  have hEW := hW
  repeat (first | (apply wpR_one; (case ho => (simp only [List.getElem?_toArray, List.getElem?_cons_succ, List.getElem?_cons_zero]; try exact rfl)); (case hw => rfl); (case hl => rfl); (case hsp => rfl); (case he => rfl); (case hv => (intro w' hw'; (try (have hw2 := Ext.trans hEW hw')); (try (have hw3 := Exc.trans hEW hw')); (try (have hw4 := Exk.trans hEW hw')); (try (have hw5 := Mrk.trans hEW hw')); go_simp; exact rfl)); (case hw0 => (first | exact Below.refl _ _ | exact Exc.of_ext (Below.refl _ _) | exact Exk.of_ext (Below.refl _ _) | exact Mrk.of_ext (Below.refl _ _))); simp only [Act.put, List.setIfInBounds_toArray, List.set_cons_succ, List.set_cons_zero]) | (apply wpR_early; (case ho => (simp only [List.getElem?_toArray, List.getElem?_cons_succ, List.getElem?_cons_zero]; try exact rfl)); (case hw => rfl); (case hl => rfl); (case hsp => rfl); (case he => rfl); (case hv => (intro w' hw'; (try have hw2 := Ext.trans hEW hw'); go_simp; exact rfl)); simp only [Act.put, List.setIfInBounds_toArray, List.set_cons_succ, List.set_cons_zero]) | (apply wpR_pass; (case ho => (simp only [List.getElem?_toArray, List.getElem?_cons_succ, List.getElem?_cons_zero]; try exact rfl)); (case hw => rfl); (case hl => rfl); simp only [Act.put, List.setIfInBounds_toArray, List.set_cons_succ, List.set_cons_zero]))
  apply wpR_nil
  apply hN
  intro w4 hE4 hK _
  have hEE := hEW.trans hE4
  have h4 := h3.ext hEE
  have hEw4 := hEw3.trans hEE
  have hob4 := hEE.blk hob3
  clear hK hN o3 o4 hW hEW hE4 hEw3 hob3 h3 hEE h
  have o0 := cell_of_row w4 w.heap.size 0 _ _ _ hob4
  simp only [Opn.cells, List.getElem?_toArray, List.getElem?_cons_zero] at o0
  have hBw4 : B ≤ w4.heap.size := by have := hEw4.size; omega
  have hS := h4.pt.ps.ps who hw3
  have hR := h4.pt.rs.ps who hw3
  have hLl := h4.pt.ps.len who hw3
  have hLr := h4.pt.rs.len who hw3
  have heq := hok.eq who hw3
  have hbd : Bdd ⟨lo, hi⟩ := ⟨hlob, hhib⟩
  have hge := h4.pt.ps.ge who hw3
  have hgr := h4.pt.rs.ge who hw3
  have hwlo : IntKind.i64.wrap lo = lo := by rw [IntKind.wrap_i64]; omega
  have hwhi : IntKind.i64.wrap hi = hi := by rw [IntKind.wrap_i64]; omega
  have h4' := h4.mono (Nat.le_succ n)
  have HOB := Lib.hid hob4
  have HEQ := Lib.hid heq
  have HWHO := Lib.hid hwho
  have HTO := Lib.hid hto
  clear hob4 heq hlo hhi hwho hto
  by_cases hk0 : o.kind = 0
  · have HA := add_allFd hS (by omega) hbd hge hBw4
    go_wp2_with fail
    refine HA.mono ?_
    rintro e w5 ⟨A5, c5, rfl, hS5, hX5, hf5⟩
    have h5 := h4'.setP hw3 hX5 hS5 (by have := addL_len (s.p.L who) ⟨lo, hi⟩; omega) hf5
    have HR := radd_any (w := w5) (h5.pt.rs.ps who hw3) (by have := h5.pt.rs.len who hw3; simp only at this ⊢; omega) (bdr_ofd hbd) (by have := hX5.size; omega)
    simp only at HR
    rw [← HEQ.out] at HR
    go_wp2_with fail
    refine HR.mono ?_
    rintro e w6 ⟨A6, c6, rfl, hS6, hX6⟩
    have h6 := h5.setR hw3 hX6 hS6 (by have := addL_len (s.p.L who) ⟨lo, hi⟩; omega)
    go_wp2
    go_ret
    exact ⟨_, rfl, h6, hok.put who _ _ A5 A6 c5 c6 rfl, (Exc.of_ext hEw4).trans ((one_op hX5 hge hS.hd (by decide)).trans (one_op hX6 hgr (h5.pt.rs.ps who hw3).hd (by decide)))⟩
  by_cases hk1 : o.kind = 1
  · have HA := rem_allFd hS (by omega) hbd hge hBw4
    go_wp2_with fail
    refine HA.mono ?_
    rintro e w5 ⟨A5, c5, rfl, hS5, hX5, hf5⟩
    have h5 := h4'.setP hw3 hX5 hS5 (by have := remA_len1 hS.wf lo hi; omega) hf5
    have HR := rrem_any (w := w5) (h5.pt.rs.ps who hw3) (by have := h5.pt.rs.len who hw3; simp only at this ⊢; omega) (bdr_ofd hbd) (by have := hX5.size; omega)
    simp only at HR
    rw [← HEQ.out] at HR
    go_wp2_with fail
    refine HR.mono ?_
    rintro e w6 ⟨A6, c6, rfl, hS6, hX6⟩
    have h6 := h5.setR hw3 hX6 hS6 (by have := remA_len1 hS.wf lo hi; omega)
    go_wp2
    go_ret
    exact ⟨_, rfl, h6, hok.put who _ _ A5 A6 c5 c6 rfl, (Exc.of_ext hEw4).trans ((one_op hX5 hge hS.hd (by decide)).trans (one_op hX6 hgr (h5.pt.rs.ps who hw3).hd (by decide)))⟩
  by_cases hk2 : o.kind = 2
  · have HA := has_anyd (x := lo) hS (by omega)
    go_wp2_with fail
    refine HA.mono ?_
    rintro e w5 ⟨rfl, hE5⟩
    have HR := rhas_any (x := lo) (hR.ext hE5) (by omega)
    rw [← HEQ.out] at HR
    go_wp2_with fail
    refine HR.mono ?_
    rintro e w6 ⟨rfl, rfl⟩
    go_wp2
    go_ret
    exact ⟨s, by simp, h4'.ext hE5, hok, Exc.of_ext (hEw4.trans hE5)⟩
  by_cases hk3 : o.kind = 3
  · have HA := len_anyd hS (by omega)
    rw [cnt_ofd hS.wf hS.bd] at HA
    go_wp2_with fail
    refine HA.mono ?_
    rintro e w5 ⟨rfl, hE5⟩
    have HR := rlen_any (hR.ext hE5) (by omega)
    rw [← HEQ.out] at HR
    go_wp2_with fail
    refine HR.mono ?_
    rintro e w6 ⟨rfl, hE6⟩
    go_wp2
    go_ret
    exact ⟨s, by simp, h4'.ext (hE5.trans hE6), hok, Exc.of_ext (hEw4.trans (hE5.trans hE6))⟩
  by_cases hk4 : o.kind = 4
  · have HA := lowest_anyd hS (by omega)
    have hlw := low_bdd hS.bd
    go_wp2_with fail
    refine HA.mono ?_
    rintro e w5 ⟨rfl, rfl⟩
    have HR := rlow_any hR (by omega)
    rw [← HEQ.out] at HR
    go_wp2_with fail
    refine HR.mono ?_
    rintro e w6 ⟨rfl, rfl⟩
    go_wp2
    go_ret
    exact ⟨s, by simp, h4', hok, Exc.of_ext hEw4⟩
  by_cases hk5 : o.kind = 5
  · obtain ⟨i1, hi1, hz1, hzz1, hzz2⟩ := info_parts infoSRd
    obtain ⟨i2, hi2, hz2, hzz3, hzz4⟩ := info_parts infoSrd
    have hHA := runs_anyd hS (by omega)
    have hlw := fun u hu => (World.ownsRow.lt (h4.pt.tds.tk u hu))
    have hlp := fun i hi => (World.ownsRow.lt (h4.pt.ps.ps i hi).row)
    have hlk := fun x hx => (World.ownsRow.lt (h4.pt.wks.wk x hx).row)
    have hbd5 := hS.bd
    have hct := h4.pt.tds.cnt
    have hcx := h4.pt.wts.cnt
    go_wp2_with fail
    refine hHA.mono ?_
    rintro e w5 ⟨A5, c5, rfl, hT5, hE5⟩
    have h5 := h4'.ext hE5
    have hs5 := hE5.size
    have q7 := cell_of_row _ _ 7 _ _ _ h5.hd
    simp only [Wk.cells, List.getElem?_toArray, List.getElem?_cons_zero, List.getElem?_cons_succ] at q7
    have hT5' : RowRd B (w5.alloc (.cells #[.slice A5 (s.p.L who).length c5] 203)) A5 c5 (s.p.L who) := own_ext (own_mono hT5 hBw4) (ext_alloc w5 (.cells #[.slice A5 (s.p.L who).length c5] 203))
    have hdis : ∀ q, (Value.slice A5 (s.p.L who).length c5).ownBlock = some q → w4.heap.size ≤ q := fun q hq => (World.ownsRow.lt hT5 q hq).1
    clear HOB hHA
    go_wp2_with (at_builtin; refine wpList_append_apart rfl _ _ 118 rfl B 203 i1 _ 1 24 Try.underlying118 hi1 hz1 hzz1 hzz2 rfl (by decide) _ s.ts.length _ rfl (own_ext h5.pt.tds.row (ext_alloc _ _)) ⟨w5.heap.size, 0, none⟩ 1 1 [.slice A5 (s.p.L who).length c5] rfl rfl (news_row w5 _ _ _) (one_sl _ _ _) (by decide) (by unfold maxLen; omega) (by omega) (by simp; omega) ?_; intro v' w6 ho6 hc6; obtain ⟨row6, hg6, hr6⟩ := grown_row (own_ext h5.pt.tds.row (ext_alloc _ _)) hc6; have hd6 := blk_kept hg6 hr6 ((ext_alloc _ _).blk h5.hd) (by decide); have hx6 := exc_kept_op hg6 hr6 (by decide); obtain ⟨A6, c6, rfl, hp6, _⟩ := Prtd.tell (t := ⟨A5, c5, s.p.L who⟩) (h5.pt.ext (ext_alloc _ _)) ho6 hc6 hT5' hbd5 (by simp only; omega) (by omega) (fun u hu q hq e => by have h1 := hdis q hq; have h2 := (hlw u hu q e).2; omega) (fun q hq i hi e => by have h1 := hdis q hq; have h2 := (hlp i hi q e).2; omega) (fun q hq x hx e => by have h1 := hdis q hq; have h2 := (hlk x hx q e).2; omega); have cc := cell_of_row w6 xb 7 _ _ _ hd6; have ff := frozen_of_row w6 xb 7 _ _ hd6; simp only [Wk.cells, List.getElem?_toArray, List.getElem?_cons_zero, List.getElem?_cons_succ] at cc)
    have h7 : WorkAtd B xb (n + 1) (w6.setCell ⟨xb, 7, none⟩ (.slice A6 (s.ts.length + 1) c6)) { s with At := A6, ct := c6, ts := s.ts ++ [⟨A5, c5, s.p.L who⟩] } := WorkAtd.stored hd6 h5.hB hp6 (by unfold Wk.cells; simp)
    have hx7 : Exc (DB B) w (w6.setCell ⟨xb, 7, none⟩ (.slice A6 (s.ts.length + 1) c6)) := (Exc.of_ext ((hEw4.trans hE5).trans (ext_alloc _ _))).trans (hx6.trans (one_op (setCell_excr _ _ _ _) h5.hB hd6 (by decide)))
    clear ho6 hc6 hg6 hr6 hd6 hx6 hp6 cc ff q7 hT5' hdis hlw hlp hlk h5 hE5 hs5 hEw4
    go_wp2
    refine wp_cut (fun V => WorkAtd B xb (n + 1) V { s with At := A6, ct := c6, ts := s.ts ++ [⟨A5, c5, s.p.L who⟩] } ∧ Exc (DB B) w V) ⟨h7, hx7⟩ ?_
    clear h7 hx7
    rintro w7 ⟨h7, hx7⟩
    obtain ⟨s1, hs1⟩ : ∃ s1, ({ s with At := A6, ct := c6, ts := s.ts ++ [⟨A5, c5, s.p.L who⟩] } : Wk) = s1 := ⟨_, rfl⟩
    rw [hs1] at h7
    have e1 : s1.xs = s.xs := by rw [← hs1]
    have e2 : s1.r = s.r := by rw [← hs1]
    have e3 : s1.p = s.p := by rw [← hs1]
    have e4 : s1.ts = s.ts ++ [⟨A5, c5, s.p.L who⟩] := by rw [← hs1]
    have hR7 := h7.pt.rs.ps who hw3
    rw [e2] at hR7
    have hcx1 : s1.xs.length ≤ n := by rw [e1]; exact hcx
    have hxl := (Array.getElem?_eq_some_iff.1 h7.hd).1
    have hxo := fun b hb => (World.ownsRow.lt h7.pt.wts.row b hb).2
    have hB7 : B ≤ w7.heap.size := by have := h7.hB; omega
    have HE1 := Lib.hid e1
    have HE2 := Lib.hid e2
    have HE3 := Lib.hid e3
    have HE4 := Lib.hid e4
    have HS1 := Lib.hid hs1
    clear e1 e2 e3 e4 hs1 hR hS
    refine wp_region_rg (Exc fun q _ => q = xb ∨ (Value.slice s1.Ax s1.xs.length s1.cx).ownBlock = some q) (rel_exc _) (fun V => WorkAtd B xb (n + 1) V s1) [0, 1, 2, 3, 4, 5, 6, 7, 8, 9, 10, 11, 12, 13, 14] (fun i => match i with
      | 6 => some fun _ z V => CopyX B xb s1.Ax s1.xs.length s1.cx (s.r.L who) z V
      | 9 => some fun _ z V => RowX B xb s1.Ax s1.xs.length s1.cx (s.r.L who) z V
      | 10 => some fun V z W => LitX xb s1.Ax s1.xs.length s1.cx (V 9) z W
      | _ => none) (fun i => match i with
      | 11 => some fun V z W => AppXd B xb (n + 1) s1 (s.r.L who) (V 9) z W
      | 14 => some fun V z W => FinXd B xb (n + 1) s1 (s.r.L who) W
      | _ => none) (fun i => match i with | 4 => true | _ => false) (by kernel_rfl) (by kernel_rfl) (fun _ _ h he => h.ext he) (h7.ext (Below.refl _ _).drew) (fun W N hW hF0 hN => ?_)
    have hEW : Exc (fun q _ => q = xb ∨ (Value.slice s1.Ax s1.xs.length s1.cx).ownBlock = some q) W W := exc_refl _ _
    have hWs := hW.size
    have hRk : ∀ w', Exc (fun q _ => q = xb ∨ (Value.slice s1.Ax s1.xs.length s1.cx).ownBlock = some q) W w' → SetAtr B (s.r.P who) (s.r.A who) (s.r.c who) w' (s.r.L who) := fun w' h' => by
      have hr := hR7.ext hW
      refine ⟨h'.blk hr.hd (fun e => ?_), own_out hr.row h' (fun b _ hb e => ?_), hr.wf, hr.bd⟩
      · rcases e with e | e
        · exact blk_ne hr.hd hF0.hd (by decide) e
        · exact own_not hF0.pt.wts.row hr.hd (by decide) e
      · rcases e with e | e
        · exact own_not hr.row hF0.hd (by decide) (by rw [hb, e])
        · obtain ⟨_, cs, hg⟩ := own_blk hr.row hb
          exact own_not hF0.pt.wts.row hg (by decide) e
    have y8 : ∀ w', Ext W w' → w'.cell? ⟨xb, 8, none⟩ = some (.slice s1.Ax s1.xs.length s1.cx) := fun w' h => by
      rw [cell_of_row _ _ 8 _ _ _ (hF0.ext h).hd]
      rfl
    repeat (first | (apply wpR_one; (case ho => (simp only [List.getElem?_toArray, List.getElem?_cons_succ, List.getElem?_cons_zero]; try exact rfl)); (case hw => rfl); (case hl => rfl); (case hsp => rfl); (case he => rfl); (case hv => (intro w' hw'; (try (have hw2 := Ext.trans hEW hw')); (try (have hw3 := Exc.trans hEW hw')); (try (have hw4 := Exk.trans hEW hw')); (try (have hw5 := Mrk.trans hEW hw')); go_simp; exact rfl)); (case hw0 => (first | exact Below.refl _ _ | exact Exc.of_ext (Below.refl _ _) | exact Exk.of_ext (Below.refl _ _) | exact Mrk.of_ext (Below.refl _ _))); simp only [Act.put, List.setIfInBounds_toArray, List.set_cons_succ, List.set_cons_zero]) | (apply wpR_early; (case ho => (simp only [List.getElem?_toArray, List.getElem?_cons_succ, List.getElem?_cons_zero]; try exact rfl)); (case hw => rfl); (case hl => rfl); (case hsp => rfl); (case he => rfl); (case hv => (intro w' hw'; (try have hw2 := Ext.trans hEW hw'); go_simp; exact rfl)); simp only [Act.put, List.setIfInBounds_toArray, List.set_cons_succ, List.set_cons_zero]) | (apply wpR_pass; (case ho => (simp only [List.getElem?_toArray, List.getElem?_cons_succ, List.getElem?_cons_zero]; try exact rfl)); (case hw => rfl); (case hl => rfl); simp only [Act.put, List.setIfInBounds_toArray, List.set_cons_succ, List.set_cons_zero]))
    refine wpR_new (by ((simp only [List.getElem?_toArray, List.getElem?_cons_succ, List.getElem?_cons_zero]; try exact rfl))) _ rfl rfl rfl (fun V v => CopyX.lasts _ _ _ _ _ _ _) (fun V V' h => rfl) (fun w' hw' hK => ?_) (fun z hz => ?_)
    · have hs := hw'.size
      have hRw := hRk w' hw'
      clear y8
      unfold opAt; go_simp; refine upAt_enter ?_
      refine (rcopy_any hRw (by omega)).mono ?_
      rintro e w8 ⟨q, A8, c8, rfl, hq8, h8, hE8⟩
      have hro8 := h8.row
      refine ⟨_, rfl, hE8, q, A8, c8, rfl, h8.hd, ?_, own_mono hro8 (by omega), fun b hb => ?_⟩
      · rintro (e | e)
        · omega
        · have := hxo _ e; omega
      · have h9 := (World.ownsRow.lt hro8 b hb).1
        rintro (e | e)
        · omega
        · have := hxo _ e; omega
    obtain ⟨_, _, _, qc, _, _, rfl, _⟩ := hz
    simp only [Act.put, List.setIfInBounds_toArray, List.set_cons_succ, List.set_cons_zero]
    repeat (first | (apply wpR_one; (case ho => (simp only [List.getElem?_toArray, List.getElem?_cons_succ, List.getElem?_cons_zero]; try exact rfl)); (case hw => rfl); (case hl => rfl); (case hsp => rfl); (case he => rfl); (case hv => (intro w' hw'; (try (have hw2 := Ext.trans hEW hw')); (try (have hw3 := Exc.trans hEW hw')); (try (have hw4 := Exk.trans hEW hw')); (try (have hw5 := Mrk.trans hEW hw')); go_simp; exact rfl)); (case hw0 => (first | exact Below.refl _ _ | exact Exc.of_ext (Below.refl _ _) | exact Exk.of_ext (Below.refl _ _) | exact Mrk.of_ext (Below.refl _ _))); simp only [Act.put, List.setIfInBounds_toArray, List.set_cons_succ, List.set_cons_zero]) | (apply wpR_early; (case ho => (simp only [List.getElem?_toArray, List.getElem?_cons_succ, List.getElem?_cons_zero]; try exact rfl)); (case hw => rfl); (case hl => rfl); (case hsp => rfl); (case he => rfl); (case hv => (intro w' hw'; (try have hw2 := Ext.trans hEW hw'); go_simp; exact rfl)); simp only [Act.put, List.setIfInBounds_toArray, List.set_cons_succ, List.set_cons_zero]) | (apply wpR_pass; (case ho => (simp only [List.getElem?_toArray, List.getElem?_cons_succ, List.getElem?_cons_zero]; try exact rfl)); (case hw => rfl); (case hl => rfl); simp only [Act.put, List.setIfInBounds_toArray, List.set_cons_succ, List.set_cons_zero]))
    refine wpR_new (by ((simp only [List.getElem?_toArray, List.getElem?_cons_succ, List.getElem?_cons_zero]; try exact rfl))) _ rfl rfl rfl (fun V v => RowX.lasts _ _ _ _ _ _ _) (fun V V' h => rfl) (fun w' hw' hK => ?_) (fun z hz => ?_)
    · obtain ⟨q9, A9, c9, e9, hd9, _, hr9, ho9⟩ := (hK 6 (by kernel_rfl)).2
      have hqq : qc = q9 := by simpa using e9
      subst hqq
      have c9' := cell_of_row _ _ 0 _ _ _ hd9
      simp only [List.getElem?_toArray, List.getElem?_cons_zero] at c9'
      have hfin : RowX B xb s1.Ax s1.xs.length s1.cx (s.r.L who) (.slice A9 (s.r.L who).length c9) w' := ⟨A9, c9, rfl, hr9, ho9⟩
      clear y8 hK hd9 hr9 ho9 e9
      unfold opAt
      go_simp
      exact upAt_value ⟨Below.refl _ _, hfin⟩
    obtain ⟨_, _, _, A9, c9, rfl, _⟩ := hz
    simp only [Act.put, List.setIfInBounds_toArray, List.set_cons_succ, List.set_cons_zero]
    refine wpR_new (by ((simp only [List.getElem?_toArray, List.getElem?_cons_succ, List.getElem?_cons_zero]; try exact rfl))) _ rfl rfl rfl (fun V v => LitX.lasts _ _ _ _ _ _) (fun V V' h => by have := h 9 (by kernel_rfl); simp only [this]) (fun w' hw' hK => ?_) (fun z hz => ?_)
    · have hs := hw'.size
      clear y8
      unfold opAt
      go_simp
      refine upAt_value ⟨ext_alloc _ _, w'.heap.size, rfl, heap_alloc_new _ _, ?_⟩
      rintro (e | e)
      · omega
      · have := hxo _ e; omega
    obtain ⟨gl, rfl⟩ : ∃ g, z = .slice (some ⟨g, 0, none⟩) 1 1 := by
      obtain ⟨_, _, _, g, h, _⟩ := hz
      exact ⟨g, h⟩
    clear hz
    simp only [Act.put, List.setIfInBounds_toArray, List.set_cons_succ, List.set_cons_zero]
    refine wpR_late (by ((simp only [List.getElem?_toArray, List.getElem?_cons_succ, List.getElem?_cons_zero]; try exact rfl))) _ rfl rfl (fun V v => AppXd.lasts _ _ _ _ _ _ _) (fun V V' h => by have := h 9 (by kernel_rfl); simp only [this]) (fun w' hw' hK hF => ?_) (fun v hv => ?_)
    · have hF2 : WorkAtd B xb (n + 1) w' s1 := hF
      obtain ⟨g3, e3, hb3, _⟩ := (hK 10 (by kernel_rfl)).2
      have hgg : gl = g3 := by simpa using e3
      subst hgg
      obtain ⟨A10, c10, e10, hr10, _⟩ := (hK 9 (by kernel_rfl)).2
      have hee : A9 = A10 ∧ c9 = c10 := by simpa using e10
      obtain ⟨rfl, rfl⟩ := hee
      have hb3' : w'.heap[gl]? = some (.cells #[.slice A9 (s.r.L who).length c9] 22 (0, 0)) := hb3
      have hXs := hw'.size
      refine opAt_list rfl #[] (fun Q hQ => ?_)
      refine wpList_append_apart rfl _ _ 82 rfl B 22 i2 _ 1 24 Try.underlying82 hi2 hz2 hzz3 hzz4 rfl (by decide) _ s1.xs.length _ rfl hF2.pt.wts.row ⟨gl, 0, none⟩ 1 1 [.slice A9 (s.r.L who).length c9] rfl rfl (fun j u hj => by rw [Addr.add_lit, cell_of_row _ _ _ _ _ _ hb3', Nat.zero_add]; simpa using hj) (one_sl _ _ _) (by decide) (by unfold maxLen; omega) (by omega) (by omega) ?_
      intro v' w8 ho8 hc8
      obtain ⟨row8, hg8, hr8⟩ := grown_row hF2.pt.wts.row hc8
      have hd8 := blk_kept hg8 hr8 hF2.hd (by decide)
      have hx8 : Exc (fun q _ => q = xb ∨ (Value.slice s1.Ax s1.xs.length s1.cx).ownBlock = some q) w' w8 := by
        rcases grown_one hF2.pt.wts.row hc8 with ⟨b, y, h1, _, _, hx, _⟩ | ⟨hx, _⟩
        · exact ⟨hx.os, hx.tape, hx.output, hx.size, fun k o hk hn => hx.block k o hk (fun e => hn (.inr (by rw [h1, e])))⟩
        · exact Exc.of_ext hx
      obtain ⟨A11, c11, rfl, hp8, _⟩ := Prtd.wish (t := ⟨A9, c9, s.r.L who⟩) hF2.pt ho8 hc8 hr10 (by simp only; omega) (by omega)
      exact hQ _ _ ⟨hx8, A11, c11, ⟨A9, c9, s.r.L who⟩, rfl, rfl, rfl, hp8, hd8⟩
    obtain ⟨A11, c11, rfl⟩ : ∃ A c, v = .slice A (s1.xs.length + 1) c := by
      obtain ⟨_, _, A, c, _, _, _, h, _⟩ := hv
      exact ⟨A, c, h⟩
    clear hv
    simp only [Act.put, List.setIfInBounds_toArray, List.set_cons_succ, List.set_cons_zero]
    repeat (first | (apply wpR_one; (case ho => (simp only [List.getElem?_toArray, List.getElem?_cons_succ, List.getElem?_cons_zero]; try exact rfl)); (case hw => rfl); (case hl => rfl); (case hsp => rfl); (case he => rfl); (case hv => (intro w' hw'; (try (have hw2 := Ext.trans hEW hw')); (try (have hw3 := Exc.trans hEW hw')); (try (have hw4 := Exk.trans hEW hw')); (try (have hw5 := Mrk.trans hEW hw')); go_simp; exact rfl)); (case hw0 => (first | exact Below.refl _ _ | exact Exc.of_ext (Below.refl _ _) | exact Exk.of_ext (Below.refl _ _) | exact Mrk.of_ext (Below.refl _ _))); simp only [Act.put, List.setIfInBounds_toArray, List.set_cons_succ, List.set_cons_zero]) | (apply wpR_early; (case ho => (simp only [List.getElem?_toArray, List.getElem?_cons_succ, List.getElem?_cons_zero]; try exact rfl)); (case hw => rfl); (case hl => rfl); (case hsp => rfl); (case he => rfl); (case hv => (intro w' hw'; (try have hw2 := Ext.trans hEW hw'); go_simp; exact rfl)); simp only [Act.put, List.setIfInBounds_toArray, List.set_cons_succ, List.set_cons_zero]) | (apply wpR_pass; (case ho => (simp only [List.getElem?_toArray, List.getElem?_cons_succ, List.getElem?_cons_zero]; try exact rfl)); (case hw => rfl); (case hl => rfl); simp only [Act.put, List.setIfInBounds_toArray, List.set_cons_succ, List.set_cons_zero]))
    refine wpR_late (by ((simp only [List.getElem?_toArray, List.getElem?_cons_succ, List.getElem?_cons_zero]; try exact rfl))) _ rfl rfl (fun V v => FinXd.lasts _ _ _ _ _) (fun V V' h => rfl) (fun w' hw' hK hF => ?_) (fun v hv => ?_)
    · obtain ⟨A12, c12, t12, _, ht12, e12, hp12, hd12⟩ := hF
      have hee : A11 = A12 ∧ c11 = c12 := by simpa using e12
      obtain ⟨rfl, rfl⟩ := hee
      have hfin : WorkAtd B xb (n + 1) (w'.setCell ⟨xb, 8, none⟩ (.slice A11 (s1.xs.length + 1) c11)) { s1 with Ax := A11, cx := c11, xs := s1.xs ++ [t12] } := WorkAtd.stored hd12 h7.hB hp12 (by unfold Wk.cells; simp)
      have hxc : Exc (fun q _ => q = xb ∨ (Value.slice s1.Ax s1.xs.length s1.cx).ownBlock = some q) w' (w'.setCell ⟨xb, 8, none⟩ (.slice A11 (s1.xs.length + 1) c11)) := by
        have hx := setCell_excr w' xb 8 (.slice A11 (s1.xs.length + 1) c11)
        exact ⟨hx.os, hx.tape, hx.output, hx.size, fun k o hk hn => hx.block k o hk (fun e => hn (.inl e))⟩
      have c4 := cell_of_row w' xb 8 _ _ _ hd12
      have f4 := frozen_of_row w' xb 8 _ _ hd12
      simp only [Wk.cells, List.getElem?_toArray, List.getElem?_cons_zero, List.getElem?_cons_succ] at c4
      clear y8 hd12 hp12 hF0 e12
      unfold opAt
      go_simp
      exact ⟨undef, rfl, hxc, A11, c11, t12, ht12, hfin⟩
    clear hv
    simp only [Act.put, List.setIfInBounds_toArray, List.set_cons_succ, List.set_cons_zero]
    repeat (first | (apply wpR_one; (case ho => (simp only [List.getElem?_toArray, List.getElem?_cons_succ, List.getElem?_cons_zero]; try exact rfl)); (case hw => rfl); (case hl => rfl); (case hsp => rfl); (case he => rfl); (case hv => (intro w' hw'; (try (have hw2 := Ext.trans hEW hw')); (try (have hw3 := Exc.trans hEW hw')); (try (have hw4 := Exk.trans hEW hw')); (try (have hw5 := Mrk.trans hEW hw')); go_simp; exact rfl)); (case hw0 => (first | exact Below.refl _ _ | exact Exc.of_ext (Below.refl _ _) | exact Exk.of_ext (Below.refl _ _) | exact Mrk.of_ext (Below.refl _ _))); simp only [Act.put, List.setIfInBounds_toArray, List.set_cons_succ, List.set_cons_zero]) | (apply wpR_early; (case ho => (simp only [List.getElem?_toArray, List.getElem?_cons_succ, List.getElem?_cons_zero]; try exact rfl)); (case hw => rfl); (case hl => rfl); (case hsp => rfl); (case he => rfl); (case hv => (intro w' hw'; (try have hw2 := Ext.trans hEW hw'); go_simp; exact rfl)); simp only [Act.put, List.setIfInBounds_toArray, List.set_cons_succ, List.set_cons_zero]) | (apply wpR_pass; (case ho => (simp only [List.getElem?_toArray, List.getElem?_cons_succ, List.getElem?_cons_zero]; try exact rfl)); (case hw => rfl); (case hl => rfl); simp only [Act.put, List.setIfInBounds_toArray, List.set_cons_succ, List.set_cons_zero]))
    apply wpR_nil
    apply hN
    intro w8 hE8 hK hF
    obtain ⟨A13, c13, t13, ht13, h8⟩ : FinXd B xb (n + 1) s1 (s.r.L who) w8 := hF
    have hR8 := hRk w8 hE8
    have hx8 : Exc (DB B) w w8 := (hx7.trans (Exc.of_ext hW)).trans ⟨hE8.os, hE8.tape, hE8.output, hE8.size, fun k o hk hn => hE8.block k o hk (fun e => hn (e.elim (fun e => by subst e; exact db_of hk hF0.hB hF0.hd (by decide)) (fun e => by obtain ⟨a, cs, hb⟩ := own_blk hF0.pt.wts.row e; exact db_of hk a hb (by decide))))⟩
    have hT8 : RowRd B w8 A5 c5 (s.p.L who) := h8.pt.tds.tk ⟨A5, c5, s.p.L who⟩ (by show _ ∈ s1.ts; rw [HE4.out]; simp)
    have q8 := cell_of_row _ _ 0 _ _ _ hR8.hd
    simp only [List.getElem?_toArray, List.getElem?_cons_zero] at q8
    clear hK hN y8 hRk hEW hE8 hW hF0 hx7 h7
    have HEQR := eqr_anyd hT8 hR8.row hbd5 (by omega) (by omega)
    rw [← HEQ.out, decide_eq_true rfl] at HEQR
    rw [← HEQ.out] at q8
    go_wp2_with fail
    refine HEQR.mono ?_
    rintro e w9 ⟨rfl, hE9⟩
    go_wp2
    go_ret
    refine ⟨_, rfl, h8.ext hE9, ⟨fun i hi => ?_, ?_⟩, hx8.trans (Exc.of_ext hE9)⟩
    · show s1.p.L i = s1.r.L i
      rw [HE3.out, HE2.out]
      exact hok.eq i hi
    · show s1.ts.map Tld.L = (s1.xs ++ [t13]).map Tld.L
      rw [HE4.out, HE1.out, List.map_append, List.map_append, hok.tl]
      simp only [List.map_cons, List.map_nil, ht13, HEQ.out]
  by_cases hk6 : o.kind = 6
  · have hob4 := HOB.out
    have o5 : ∀ W, Ext w4 W → W.cell? ⟨w.heap.size, 5, none⟩ = some (.int .i64 o.k) := fun W h => cell_of_row _ _ _ _ _ _ (h.blk hob4)
    clear hob4
    go_wp2
    refine wp_region_rg Ext rel_ext (fun _ => True) [0, 1, 2, 3, 4, 5, 6, 7] (fun i => match i with
      | 1 => some fun _ z V => HasWalkd (s.p.L who) z V
      | 5 => some fun _ z _ => z = .int .i64 (leastN o.k)
      | 6 => some fun _ z _ => z = .bool true
      | _ => none) (fun _ => none) (fun _ => false) (by kernel_rfl) (by kernel_rfl) (fun _ _ _ _ => trivial) trivial (fun W N hW _ hN => ?_)
    have hEW := hW
    repeat (first | (apply wpR_one; (case ho => (simp only [List.getElem?_toArray, List.getElem?_cons_succ, List.getElem?_cons_zero]; try exact rfl)); (case hw => rfl); (case hl => rfl); (case hsp => rfl); (case he => rfl); (case hv => (intro w' hw'; (try (have hw2 := Ext.trans hEW hw')); (try (have hw3 := Exc.trans hEW hw')); (try (have hw4 := Exk.trans hEW hw')); (try (have hw5 := Mrk.trans hEW hw')); go_simp; exact rfl)); (case hw0 => (first | exact Below.refl _ _ | exact Exc.of_ext (Below.refl _ _) | exact Exk.of_ext (Below.refl _ _) | exact Mrk.of_ext (Below.refl _ _))); simp only [Act.put, List.setIfInBounds_toArray, List.set_cons_succ, List.set_cons_zero]) | (apply wpR_early; (case ho => (simp only [List.getElem?_toArray, List.getElem?_cons_succ, List.getElem?_cons_zero]; try exact rfl)); (case hw => rfl); (case hl => rfl); (case hsp => rfl); (case he => rfl); (case hv => (intro w' hw'; (try have hw2 := Ext.trans hEW hw'); go_simp; exact rfl)); simp only [Act.put, List.setIfInBounds_toArray, List.set_cons_succ, List.set_cons_zero]) | (apply wpR_pass; (case ho => (simp only [List.getElem?_toArray, List.getElem?_cons_succ, List.getElem?_cons_zero]; try exact rfl)); (case hw => rfl); (case hl => rfl); simp only [Act.put, List.setIfInBounds_toArray, List.set_cons_succ, List.set_cons_zero]))
    refine wpR_new (by ((simp only [List.getElem?_toArray, List.getElem?_cons_succ, List.getElem?_cons_zero]; try exact rfl))) _ rfl rfl rfl (fun V v => HasWalkd.lasts _ _) (fun V V' h => rfl) (fun w' hw' hK => ?_) (fun z hz => ?_)
    · unfold opAt; go_simp; refine upAt_enter ?_
      refine (all_anyd (hS.ext (hEW.trans hw')) (by omega)).mono ?_
      rintro e w5 ⟨b, A5, c5, rfl, _, h5, hE5⟩
      exact ⟨_, rfl, hE5, _, b, A5, c5, rfl, h5⟩
    obtain ⟨_, _, _, _, b, _, _, rfl, _⟩ := hz
    simp only [Act.put, List.setIfInBounds_toArray, List.set_cons_succ, List.set_cons_zero]
    repeat (first | (apply wpR_one; (case ho => (simp only [List.getElem?_toArray, List.getElem?_cons_succ, List.getElem?_cons_zero]; try exact rfl)); (case hw => rfl); (case hl => rfl); (case hsp => rfl); (case he => rfl); (case hv => (intro w' hw'; (try (have hw2 := Ext.trans hEW hw')); (try (have hw3 := Exc.trans hEW hw')); (try (have hw4 := Exk.trans hEW hw')); (try (have hw5 := Mrk.trans hEW hw')); go_simp; exact rfl)); (case hw0 => (first | exact Below.refl _ _ | exact Exc.of_ext (Below.refl _ _) | exact Exk.of_ext (Below.refl _ _) | exact Mrk.of_ext (Below.refl _ _))); simp only [Act.put, List.setIfInBounds_toArray, List.set_cons_succ, List.set_cons_zero]) | (apply wpR_early; (case ho => (simp only [List.getElem?_toArray, List.getElem?_cons_succ, List.getElem?_cons_zero]; try exact rfl)); (case hw => rfl); (case hl => rfl); (case hsp => rfl); (case he => rfl); (case hv => (intro w' hw'; (try have hw2 := Ext.trans hEW hw'); go_simp; exact rfl)); simp only [Act.put, List.setIfInBounds_toArray, List.set_cons_succ, List.set_cons_zero]) | (apply wpR_pass; (case ho => (simp only [List.getElem?_toArray, List.getElem?_cons_succ, List.getElem?_cons_zero]; try exact rfl)); (case hw => rfl); (case hl => rfl); simp only [Act.put, List.setIfInBounds_toArray, List.set_cons_succ, List.set_cons_zero]))
    refine wpR_new (by ((simp only [List.getElem?_toArray, List.getElem?_cons_succ, List.getElem?_cons_zero]; try exact rfl))) _ rfl rfl rfl (fun V v => Lasts.pure) (fun V V' h => rfl) (fun w' hw' hK => ?_) (fun z hz => ?_)
    · unfold opAt; go_simp; refine upAt_enter ?_
      refine least_any.mono ?_
      rintro e w5 ⟨rfl, rfl⟩
      exact ⟨_, rfl, Below.refl _ _, rfl⟩
    obtain ⟨_, _, _, rfl⟩ := hz
    simp only [Act.put, List.setIfInBounds_toArray, List.set_cons_succ, List.set_cons_zero]
    refine wpR_new (by ((simp only [List.getElem?_toArray, List.getElem?_cons_succ, List.getElem?_cons_zero]; try exact rfl))) _ rfl rfl rfl (fun V v => Lasts.pure) (fun V V' h => rfl) (fun w' hw' hK => ?_) (fun z hz => ?_)
    · obtain ⟨B', b', A', c', e, hwk⟩ := (hK 1 (by kernel_rfl)).2
      have hbb : b = b' := by simpa using e
      subst hbb
      have HR := hR.ext (hEW.trans hw')
      rw [← HEQ.out] at HR
      have hll := leastN_le o.k
      clear hK
      unfold opAt; go_simp; refine upAt_enter ?_
      refine (goes_anyd hwk HR (by omega) hll).mono ?_
      rintro e w5 ⟨rfl, hE5⟩
      exact ⟨_, rfl, hE5, rfl⟩
    obtain ⟨_, _, _, rfl⟩ := hz
    simp only [Act.put, List.setIfInBounds_toArray, List.set_cons_succ, List.set_cons_zero]
    repeat (first | (apply wpR_one; (case ho => (simp only [List.getElem?_toArray, List.getElem?_cons_succ, List.getElem?_cons_zero]; try exact rfl)); (case hw => rfl); (case hl => rfl); (case hsp => rfl); (case he => rfl); (case hv => (intro w' hw'; (try (have hw2 := Ext.trans hEW hw')); (try (have hw3 := Exc.trans hEW hw')); (try (have hw4 := Exk.trans hEW hw')); (try (have hw5 := Mrk.trans hEW hw')); go_simp; exact rfl)); (case hw0 => (first | exact Below.refl _ _ | exact Exc.of_ext (Below.refl _ _) | exact Exk.of_ext (Below.refl _ _) | exact Mrk.of_ext (Below.refl _ _))); simp only [Act.put, List.setIfInBounds_toArray, List.set_cons_succ, List.set_cons_zero]) | (apply wpR_early; (case ho => (simp only [List.getElem?_toArray, List.getElem?_cons_succ, List.getElem?_cons_zero]; try exact rfl)); (case hw => rfl); (case hl => rfl); (case hsp => rfl); (case he => rfl); (case hv => (intro w' hw'; (try have hw2 := Ext.trans hEW hw'); go_simp; exact rfl)); simp only [Act.put, List.setIfInBounds_toArray, List.set_cons_succ, List.set_cons_zero]) | (apply wpR_pass; (case ho => (simp only [List.getElem?_toArray, List.getElem?_cons_succ, List.getElem?_cons_zero]; try exact rfl)); (case hw => rfl); (case hl => rfl); simp only [Act.put, List.setIfInBounds_toArray, List.set_cons_succ, List.set_cons_zero]))
    apply wpR_nil
    apply hN
    intro w5 hE5 hK _
    have hEE := hEW.trans hE5
    clear hK hN o5 hW hEW hE5
    go_wp2
    go_ret
    exact ⟨s, rfl, h4'.ext hEE, hok, Exc.of_ext (hEw4.trans hEE)⟩
  by_cases hk8 : o.kind = 8
  · have hob4 := HOB.out
    have o5 := cell_of_row _ _ 5 _ _ _ hob4
    simp only [Opn.cells, List.getElem?_toArray, List.getElem?_cons_zero, List.getElem?_cons_succ] at o5
    by_cases hkz : o.k = 0
    · obtain ⟨m, hm⟩ : ∃ m, (s.p.L who).length = m := ⟨_, rfl⟩
      have hm2 : (s.r.L who).length = m := by rw [← HEQ.out]; exact hm
      have HSN := fun W (h : Ext w4 W) => same_nild (hS.ext h) (by omega)
      rw [hm] at HSN
      have r0 : ∀ W, Ext w4 W → W.cell? ⟨s.r.P who, 0, none⟩ = some (.slice (s.r.A who) m (s.r.c who)) := fun W h => by rw [← hm2]; exact cell_of_row _ _ _ _ _ _ (hR.ext h).hd
      obtain ⟨d, hd⟩ : ∃ d, (m == 0) = d := ⟨_, rfl⟩
      have hd2 : (((m : Nat) : Int) == 0) = d := by rw [← hd, Bool.eq_iff_iff]; simp
      rw [hd] at HSN
      have HH := Lib.hid hd
      clear hm hm2 hd
      go_wp2
      refine wp_region_rg Ext rel_ext (fun _ => True) [0, 1, 2, 3, 4, 5, 6, 7, 8, 9] (fun i => match i with | 1 => some fun _ z _ => z = .bool d | _ => none) (fun _ => none) (fun _ => false) (by kernel_rfl) (by kernel_rfl) (fun _ _ _ _ => trivial) trivial (fun W N hW _ hN => ?_)
      have hEW := hW
      repeat (first | (apply wpR_one; (case ho => (simp only [List.getElem?_toArray, List.getElem?_cons_succ, List.getElem?_cons_zero]; try exact rfl)); (case hw => rfl); (case hl => rfl); (case hsp => rfl); (case he => rfl); (case hv => (intro w' hw'; (try (have hw2 := Ext.trans hEW hw')); (try (have hw3 := Exc.trans hEW hw')); (try (have hw4 := Exk.trans hEW hw')); (try (have hw5 := Mrk.trans hEW hw')); go_simp; exact rfl)); (case hw0 => (first | exact Below.refl _ _ | exact Exc.of_ext (Below.refl _ _) | exact Exk.of_ext (Below.refl _ _) | exact Mrk.of_ext (Below.refl _ _))); simp only [Act.put, List.setIfInBounds_toArray, List.set_cons_succ, List.set_cons_zero]) | (apply wpR_early; (case ho => (simp only [List.getElem?_toArray, List.getElem?_cons_succ, List.getElem?_cons_zero]; try exact rfl)); (case hw => rfl); (case hl => rfl); (case hsp => rfl); (case he => rfl); (case hv => (intro w' hw'; (try have hw2 := Ext.trans hEW hw'); go_simp; exact rfl)); simp only [Act.put, List.setIfInBounds_toArray, List.set_cons_succ, List.set_cons_zero]) | (apply wpR_pass; (case ho => (simp only [List.getElem?_toArray, List.getElem?_cons_succ, List.getElem?_cons_zero]; try exact rfl)); (case hw => rfl); (case hl => rfl); simp only [Act.put, List.setIfInBounds_toArray, List.set_cons_succ, List.set_cons_zero]))
      refine wpR_new (by ((simp only [List.getElem?_toArray, List.getElem?_cons_succ, List.getElem?_cons_zero]; try exact rfl))) _ rfl rfl rfl (fun V v => Lasts.pure) (fun V V' h => rfl) (fun w' hw' hK => ?_) (fun z hz => ?_)
      · unfold opAt; go_simp; refine upAt_enter ?_
        refine (HSN _ (hEW.trans hw')).mono ?_
        rintro e w5 ⟨rfl, rfl⟩
        exact ⟨_, rfl, Below.refl _ _, rfl⟩
      obtain ⟨_, _, _, rfl⟩ := hz
      simp only [Act.put, List.setIfInBounds_toArray, List.set_cons_succ, List.set_cons_zero]
      repeat (first | (apply wpR_one; (case ho => (simp only [List.getElem?_toArray, List.getElem?_cons_succ, List.getElem?_cons_zero]; try exact rfl)); (case hw => rfl); (case hl => rfl); (case hsp => rfl); (case he => rfl); (case hv => (intro w' hw'; (try (have hw2 := Ext.trans hEW hw')); (try (have hw3 := Exc.trans hEW hw')); (try (have hw4 := Exk.trans hEW hw')); (try (have hw5 := Mrk.trans hEW hw')); go_simp; exact rfl)); (case hw0 => (first | exact Below.refl _ _ | exact Exc.of_ext (Below.refl _ _) | exact Exk.of_ext (Below.refl _ _) | exact Mrk.of_ext (Below.refl _ _))); simp only [Act.put, List.setIfInBounds_toArray, List.set_cons_succ, List.set_cons_zero]) | (apply wpR_early; (case ho => (simp only [List.getElem?_toArray, List.getElem?_cons_succ, List.getElem?_cons_zero]; try exact rfl)); (case hw => rfl); (case hl => rfl); (case hsp => rfl); (case he => rfl); (case hv => (intro w' hw'; (try have hw2 := Ext.trans hEW hw'); go_simp; exact rfl)); simp only [Act.put, List.setIfInBounds_toArray, List.set_cons_succ, List.set_cons_zero]) | (apply wpR_pass; (case ho => (simp only [List.getElem?_toArray, List.getElem?_cons_succ, List.getElem?_cons_zero]; try exact rfl)); (case hw => rfl); (case hl => rfl); simp only [Act.put, List.setIfInBounds_toArray, List.set_cons_succ, List.set_cons_zero]))
      apply wpR_nil
      apply hN
      intro w5 hE5 hK _
      have hEE := hEW.trans hE5
      clear hK hN hW hEW hE5 r0
      go_wp2
      go_ret
      exact ⟨s, by simp, h4'.ext hEE, hok, Exc.of_ext (hEw4.trans hEE)⟩
    · have hT := h4.pt.ps.ps tw ht3
      have hU := h4.pt.rs.ps tw ht3
      have hl1 := h4.pt.ps.len tw ht3
      have hl2 := h4.pt.rs.len tw ht3
      have HSP := fun W (h : Ext w4 W) => same_anyd (hS.ext h) (hT.ext h) (by omega) (by omega)
      have HSR := fun W (h : Ext w4 W) => rsame_any (hR.ext h) (hU.ext h) (by omega) (by omega)
      rw [← HEQ.out, ← hok.eq tw ht3] at HSR
      obtain ⟨d, hd⟩ : ∃ d, decide (s.p.L who = s.p.L tw) = d := ⟨_, rfl⟩
      rw [hd] at HSP HSR
      have y0 : ∀ W, Ext w4 W → W.cell? ⟨xb, tw, none⟩ = some (.pointer (some ⟨s.p.P tw, 0, none⟩)) := fun W hh => by rw [cell_of_row _ _ _ _ _ _ (h4.ext hh).hd, wk_p s ht3]
      have y1 : ∀ W, Ext w4 W → W.cell? ⟨xb, 3 + tw, none⟩ = some (.pointer (some ⟨s.r.P tw, 0, none⟩)) := fun W hh => by rw [cell_of_row _ _ _ _ _ _ (h4.ext hh).hd, wk_r s ht3]
      have hti : (tw : Int) < 3 := by omega
      clear hd hT hU
      go_wp2
      refine wp_region_rg Ext rel_ext (fun _ => True) [0, 1, 2, 3, 4, 5, 6, 7, 8, 9, 10, 11, 12, 13, 14, 15, 16, 17] (fun i => match i with | 7 => some fun _ z _ => z = .bool d | 15 => some fun _ z _ => z = .bool d | _ => none) (fun _ => none) (fun _ => false) (by kernel_rfl) (by kernel_rfl) (fun _ _ _ _ => trivial) trivial (fun W N hW _ hN => ?_)
      have hEW := hW
      repeat (first | (apply wpR_one; (case ho => (simp only [List.getElem?_toArray, List.getElem?_cons_succ, List.getElem?_cons_zero]; try exact rfl)); (case hw => rfl); (case hl => rfl); (case hsp => rfl); (case he => rfl); (case hv => (intro w' hw'; (try (have hw2 := Ext.trans hEW hw')); (try (have hw3 := Exc.trans hEW hw')); (try (have hw4 := Exk.trans hEW hw')); (try (have hw5 := Mrk.trans hEW hw')); go_simp; exact rfl)); (case hw0 => (first | exact Below.refl _ _ | exact Exc.of_ext (Below.refl _ _) | exact Exk.of_ext (Below.refl _ _) | exact Mrk.of_ext (Below.refl _ _))); simp only [Act.put, List.setIfInBounds_toArray, List.set_cons_succ, List.set_cons_zero]) | (apply wpR_early; (case ho => (simp only [List.getElem?_toArray, List.getElem?_cons_succ, List.getElem?_cons_zero]; try exact rfl)); (case hw => rfl); (case hl => rfl); (case hsp => rfl); (case he => rfl); (case hv => (intro w' hw'; (try have hw2 := Ext.trans hEW hw'); go_simp; exact rfl)); simp only [Act.put, List.setIfInBounds_toArray, List.set_cons_succ, List.set_cons_zero]) | (apply wpR_pass; (case ho => (simp only [List.getElem?_toArray, List.getElem?_cons_succ, List.getElem?_cons_zero]; try exact rfl)); (case hw => rfl); (case hl => rfl); simp only [Act.put, List.setIfInBounds_toArray, List.set_cons_succ, List.set_cons_zero]))
      refine wpR_new (by ((simp only [List.getElem?_toArray, List.getElem?_cons_succ, List.getElem?_cons_zero]; try exact rfl))) _ rfl rfl rfl (fun V v => Lasts.pure) (fun V V' h => rfl) (fun w' hw' hK => ?_) (fun z hz => ?_)
      · unfold opAt; go_simp; refine upAt_enter ?_
        refine (HSP _ (hEW.trans hw')).mono ?_
        rintro e w5 ⟨rfl, hE5⟩
        exact ⟨_, rfl, hE5, rfl⟩
      obtain ⟨_, _, _, rfl⟩ := hz
      simp only [Act.put, List.setIfInBounds_toArray, List.set_cons_succ, List.set_cons_zero]
      repeat (first | (apply wpR_one; (case ho => (simp only [List.getElem?_toArray, List.getElem?_cons_succ, List.getElem?_cons_zero]; try exact rfl)); (case hw => rfl); (case hl => rfl); (case hsp => rfl); (case he => rfl); (case hv => (intro w' hw'; (try (have hw2 := Ext.trans hEW hw')); (try (have hw3 := Exc.trans hEW hw')); (try (have hw4 := Exk.trans hEW hw')); (try (have hw5 := Mrk.trans hEW hw')); go_simp; exact rfl)); (case hw0 => (first | exact Below.refl _ _ | exact Exc.of_ext (Below.refl _ _) | exact Exk.of_ext (Below.refl _ _) | exact Mrk.of_ext (Below.refl _ _))); simp only [Act.put, List.setIfInBounds_toArray, List.set_cons_succ, List.set_cons_zero]) | (apply wpR_early; (case ho => (simp only [List.getElem?_toArray, List.getElem?_cons_succ, List.getElem?_cons_zero]; try exact rfl)); (case hw => rfl); (case hl => rfl); (case hsp => rfl); (case he => rfl); (case hv => (intro w' hw'; (try have hw2 := Ext.trans hEW hw'); go_simp; exact rfl)); simp only [Act.put, List.setIfInBounds_toArray, List.set_cons_succ, List.set_cons_zero]) | (apply wpR_pass; (case ho => (simp only [List.getElem?_toArray, List.getElem?_cons_succ, List.getElem?_cons_zero]; try exact rfl)); (case hw => rfl); (case hl => rfl); simp only [Act.put, List.setIfInBounds_toArray, List.set_cons_succ, List.set_cons_zero]))
      refine wpR_new (by ((simp only [List.getElem?_toArray, List.getElem?_cons_succ, List.getElem?_cons_zero]; try exact rfl))) _ rfl rfl rfl (fun V v => Lasts.pure) (fun V V' h => rfl) (fun w' hw' hK => ?_) (fun z hz => ?_)
      · unfold opAt; go_simp; refine upAt_enter ?_
        refine (HSR _ (hEW.trans hw')).mono ?_
        rintro e w5 ⟨rfl, hE5⟩
        exact ⟨_, rfl, hE5, rfl⟩
      obtain ⟨_, _, _, rfl⟩ := hz
      simp only [Act.put, List.setIfInBounds_toArray, List.set_cons_succ, List.set_cons_zero]
      repeat (first | (apply wpR_one; (case ho => (simp only [List.getElem?_toArray, List.getElem?_cons_succ, List.getElem?_cons_zero]; try exact rfl)); (case hw => rfl); (case hl => rfl); (case hsp => rfl); (case he => rfl); (case hv => (intro w' hw'; (try (have hw2 := Ext.trans hEW hw')); (try (have hw3 := Exc.trans hEW hw')); (try (have hw4 := Exk.trans hEW hw')); (try (have hw5 := Mrk.trans hEW hw')); go_simp; exact rfl)); (case hw0 => (first | exact Below.refl _ _ | exact Exc.of_ext (Below.refl _ _) | exact Exk.of_ext (Below.refl _ _) | exact Mrk.of_ext (Below.refl _ _))); simp only [Act.put, List.setIfInBounds_toArray, List.set_cons_succ, List.set_cons_zero]) | (apply wpR_early; (case ho => (simp only [List.getElem?_toArray, List.getElem?_cons_succ, List.getElem?_cons_zero]; try exact rfl)); (case hw => rfl); (case hl => rfl); (case hsp => rfl); (case he => rfl); (case hv => (intro w' hw'; (try have hw2 := Ext.trans hEW hw'); go_simp; exact rfl)); simp only [Act.put, List.setIfInBounds_toArray, List.set_cons_succ, List.set_cons_zero]) | (apply wpR_pass; (case ho => (simp only [List.getElem?_toArray, List.getElem?_cons_succ, List.getElem?_cons_zero]; try exact rfl)); (case hw => rfl); (case hl => rfl); simp only [Act.put, List.setIfInBounds_toArray, List.set_cons_succ, List.set_cons_zero]))
      apply wpR_nil
      apply hN
      intro w5 hE5 hK _
      have hEE := hEW.trans hE5
      clear hK hN hW hEW hE5 y0 y1
      go_wp2
      go_ret
      exact ⟨s, by simp, h4'.ext hEE, hok, Exc.of_ext (hEw4.trans hEE)⟩
  by_cases hk11 : o.kind = 11
  · obtain ⟨i1, hi1, hz1, hzz1, hzz2⟩ := info_parts infoKd
    have hlw := fun u hu => (World.ownsRow.lt (h4.pt.tds.tk u hu))
    have hlr := fun i hi => (Array.getElem?_eq_some_iff.1 (h4.pt.rs.ps i hi).hd).1
    have hlo := fun b hb => (World.ownsRow.lt h4.pt.tds.row b hb).2
    have hcw := h4.pt.wks.cnt
    have hxl := (Array.getElem?_eq_some_iff.1 h4.hd).1
    have hxo := fun b hb => (World.ownsRow.lt h4.pt.wks.row b hb).2
    have h4B := h4.hB
    clear HOB
    go_wp2
    refine wp_region_rg (Exc (DK w4.heap.size xb s.Aw s.ws.length s.cw)) (rel_exc _) (fun V => WorkAtd B xb (n + 1) V s) [0, 1, 2, 3, 4, 5, 6, 7, 8, 9, 10, 11, 12, 13, 14] (fun i => match i with
      | 6 => some fun _ z V => HasKd B w4.heap.size (s.p.L who) z V
      | 8 => some fun _ z V => CopyK B w4.heap.size (s.r.L who) z V
      | 10 => some fun V z W => LitKd w4.heap.size (V 6) (V 8) z W
      | _ => none) (fun i => match i with
      | 11 => some fun V z W => AppKd B xb (n + 1) s (V 6) (V 8) z W
      | 14 => some fun V z W => FinKd B xb (n + 1) s W
      | _ => none) (fun i => match i with | 4 => true | _ => false) (by kernel_rfl) (by kernel_rfl) (fun _ _ h he => h.ext he) (h4'.ext (Below.refl _ _).drew) (fun W N hW hF0 hN => ?_)
    have hEW : Exc (DK w4.heap.size xb s.Aw s.ws.length s.cw) W W := exc_refl _ _
    have hWs := hW.size
    have hSk : ∀ w', Exc (DK w4.heap.size xb s.Aw s.ws.length s.cw) W w' → SetAtd B (s.p.P who) (s.p.A who) (s.p.c who) w' (s.p.L who) := fun w' h' => by
      have hr := hS.ext hW
      refine ⟨h'.blk hr.hd (fun e => ?_), own_out hr.row h' (fun b _ hb e => ?_), hr.wf, hr.bd⟩
      · rcases e.2 with e | e
        · exact blk_ne hr.hd hF0.hd (by decide) e
        · exact own_not hF0.pt.wks.row hr.hd (by decide) e
      · rcases e.2 with e | e
        · exact own_not hr.row hF0.hd (by decide) (by rw [hb, e])
        · obtain ⟨_, cs, hg⟩ := own_blk hr.row hb
          exact own_not hF0.pt.wks.row hg (by decide) e
    have hRk : ∀ w', Exc (DK w4.heap.size xb s.Aw s.ws.length s.cw) W w' → SetAtr B (s.r.P who) (s.r.A who) (s.r.c who) w' (s.r.L who) := fun w' h' => by
      have hr := hR.ext hW
      refine ⟨h'.blk hr.hd (fun e => ?_), own_out hr.row h' (fun b _ hb e => ?_), hr.wf, hr.bd⟩
      · rcases e.2 with e | e
        · exact blk_ne hr.hd hF0.hd (by decide) e
        · exact own_not hF0.pt.wks.row hr.hd (by decide) e
      · rcases e.2 with e | e
        · exact own_not hr.row hF0.hd (by decide) (by rw [hb, e])
        · obtain ⟨_, cs, hg⟩ := own_blk hr.row hb
          exact own_not hF0.pt.wks.row hg (by decide) e
    have y6 : ∀ w', Ext W w' → w'.cell? ⟨xb, 6, none⟩ = some (.slice s.Aw s.ws.length s.cw) := fun w' h => by
      rw [cell_of_row _ _ 6 _ _ _ (hF0.ext h).hd]
      rfl
    repeat (first | (apply wpR_one; (case ho => (simp only [List.getElem?_toArray, List.getElem?_cons_succ, List.getElem?_cons_zero]; try exact rfl)); (case hw => rfl); (case hl => rfl); (case hsp => rfl); (case he => rfl); (case hv => (intro w' hw'; (try (have hw2 := Ext.trans hEW hw')); (try (have hw3 := Exc.trans hEW hw')); (try (have hw4 := Exk.trans hEW hw')); (try (have hw5 := Mrk.trans hEW hw')); go_simp; exact rfl)); (case hw0 => (first | exact Below.refl _ _ | exact Exc.of_ext (Below.refl _ _) | exact Exk.of_ext (Below.refl _ _) | exact Mrk.of_ext (Below.refl _ _))); simp only [Act.put, List.setIfInBounds_toArray, List.set_cons_succ, List.set_cons_zero]) | (apply wpR_early; (case ho => (simp only [List.getElem?_toArray, List.getElem?_cons_succ, List.getElem?_cons_zero]; try exact rfl)); (case hw => rfl); (case hl => rfl); (case hsp => rfl); (case he => rfl); (case hv => (intro w' hw'; (try have hw2 := Ext.trans hEW hw'); go_simp; exact rfl)); simp only [Act.put, List.setIfInBounds_toArray, List.set_cons_succ, List.set_cons_zero]) | (apply wpR_pass; (case ho => (simp only [List.getElem?_toArray, List.getElem?_cons_succ, List.getElem?_cons_zero]; try exact rfl)); (case hw => rfl); (case hl => rfl); simp only [Act.put, List.setIfInBounds_toArray, List.set_cons_succ, List.set_cons_zero]))
    refine wpR_new (by ((simp only [List.getElem?_toArray, List.getElem?_cons_succ, List.getElem?_cons_zero]; try exact rfl))) _ rfl rfl rfl (fun V v => HasKd.lasts _ _ _ _ _ _ _ _) (fun V V' h => rfl) (fun w' hw' hK => ?_) (fun z hz => ?_)
    · have hs := hw'.size
      have hSw := hSk w' hw'
      clear y6
      unfold opAt; go_simp; refine upAt_enter ?_
      refine (all_anyd hSw (by omega)).mono ?_
      rintro e w8 ⟨b, A8, c8, rfl, hb8, h8, hE8⟩
      exact ⟨_, rfl, hE8, b, A8, c8, rfl, by omega, ⟨h8.hd, own_mono h8.row (by omega), h8.wf, h8.bd⟩, fun q hq => by have := (World.ownsRow.lt h8.row q hq).1; omega⟩
    obtain ⟨_, _, _, bw, _, _, rfl, _⟩ := hz
    simp only [Act.put, List.setIfInBounds_toArray, List.set_cons_succ, List.set_cons_zero]
    repeat (first | (apply wpR_one; (case ho => (simp only [List.getElem?_toArray, List.getElem?_cons_succ, List.getElem?_cons_zero]; try exact rfl)); (case hw => rfl); (case hl => rfl); (case hsp => rfl); (case he => rfl); (case hv => (intro w' hw'; (try (have hw2 := Ext.trans hEW hw')); (try (have hw3 := Exc.trans hEW hw')); (try (have hw4 := Exk.trans hEW hw')); (try (have hw5 := Mrk.trans hEW hw')); go_simp; exact rfl)); (case hw0 => (first | exact Below.refl _ _ | exact Exc.of_ext (Below.refl _ _) | exact Exk.of_ext (Below.refl _ _) | exact Mrk.of_ext (Below.refl _ _))); simp only [Act.put, List.setIfInBounds_toArray, List.set_cons_succ, List.set_cons_zero]) | (apply wpR_early; (case ho => (simp only [List.getElem?_toArray, List.getElem?_cons_succ, List.getElem?_cons_zero]; try exact rfl)); (case hw => rfl); (case hl => rfl); (case hsp => rfl); (case he => rfl); (case hv => (intro w' hw'; (try have hw2 := Ext.trans hEW hw'); go_simp; exact rfl)); simp only [Act.put, List.setIfInBounds_toArray, List.set_cons_succ, List.set_cons_zero]) | (apply wpR_pass; (case ho => (simp only [List.getElem?_toArray, List.getElem?_cons_succ, List.getElem?_cons_zero]; try exact rfl)); (case hw => rfl); (case hl => rfl); simp only [Act.put, List.setIfInBounds_toArray, List.set_cons_succ, List.set_cons_zero]))
    refine wpR_new (by ((simp only [List.getElem?_toArray, List.getElem?_cons_succ, List.getElem?_cons_zero]; try exact rfl))) _ rfl rfl rfl (fun V v => CopyK.lasts _ _ _ _ _ _ _ _) (fun V V' h => rfl) (fun w' hw' hK => ?_) (fun z hz => ?_)
    · have hs := hw'.size
      have hRw := hRk w' hw'
      clear y6
      unfold opAt; go_simp; refine upAt_enter ?_
      refine (rcopy_any hRw (by omega)).mono ?_
      rintro e w8 ⟨q, A8, c8, rfl, hq8, h8, hE8⟩
      exact ⟨_, rfl, hE8, q, A8, c8, rfl, by omega, ⟨h8.hd, own_mono h8.row (by omega), h8.wf, h8.bd⟩, fun q hq => by have := (World.ownsRow.lt h8.row q hq).1; omega⟩
    obtain ⟨_, _, _, qc, _, _, rfl, _⟩ := hz
    simp only [Act.put, List.setIfInBounds_toArray, List.set_cons_succ, List.set_cons_zero]
    repeat (first | (apply wpR_one; (case ho => (simp only [List.getElem?_toArray, List.getElem?_cons_succ, List.getElem?_cons_zero]; try exact rfl)); (case hw => rfl); (case hl => rfl); (case hsp => rfl); (case he => rfl); (case hv => (intro w' hw'; (try (have hw2 := Ext.trans hEW hw')); (try (have hw3 := Exc.trans hEW hw')); (try (have hw4 := Exk.trans hEW hw')); (try (have hw5 := Mrk.trans hEW hw')); go_simp; exact rfl)); (case hw0 => (first | exact Below.refl _ _ | exact Exc.of_ext (Below.refl _ _) | exact Exk.of_ext (Below.refl _ _) | exact Mrk.of_ext (Below.refl _ _))); simp only [Act.put, List.setIfInBounds_toArray, List.set_cons_succ, List.set_cons_zero]) | (apply wpR_early; (case ho => (simp only [List.getElem?_toArray, List.getElem?_cons_succ, List.getElem?_cons_zero]; try exact rfl)); (case hw => rfl); (case hl => rfl); (case hsp => rfl); (case he => rfl); (case hv => (intro w' hw'; (try have hw2 := Ext.trans hEW hw'); go_simp; exact rfl)); simp only [Act.put, List.setIfInBounds_toArray, List.set_cons_succ, List.set_cons_zero]) | (apply wpR_pass; (case ho => (simp only [List.getElem?_toArray, List.getElem?_cons_succ, List.getElem?_cons_zero]; try exact rfl)); (case hw => rfl); (case hl => rfl); simp only [Act.put, List.setIfInBounds_toArray, List.set_cons_succ, List.set_cons_zero]))
    refine wpR_new (by ((simp only [List.getElem?_toArray, List.getElem?_cons_succ, List.getElem?_cons_zero]; try exact rfl))) _ rfl rfl rfl (fun V v => LitKd.lasts _ _ _ _ _ _ _ _) (fun V V' h => by have h1 := h 6 (by kernel_rfl); have h2 := h 8 (by kernel_rfl); simp only [h1, h2]) (fun w' hw' hK => ?_) (fun z hz => ?_)
    · have hs := hw'.size
      clear y6
      unfold opAt
      go_simp
      exact upAt_value ⟨ext_alloc _ _, w'.heap.size, rfl, heap_alloc_new _ _, by omega⟩
    obtain ⟨gl, rfl⟩ : ∃ g, z = .slice (some ⟨g, 0, none⟩) 1 1 := by
      obtain ⟨_, _, _, g, h, _⟩ := hz
      exact ⟨g, h⟩
    clear hz
    simp only [Act.put, List.setIfInBounds_toArray, List.set_cons_succ, List.set_cons_zero]
    refine wpR_late (by ((simp only [List.getElem?_toArray, List.getElem?_cons_succ, List.getElem?_cons_zero]; try exact rfl))) _ rfl rfl (fun V v => AppKd.lasts _ _ _ _ _ _ _) (fun V V' h => by have h1 := h 6 (by kernel_rfl); have h2 := h 8 (by kernel_rfl); simp only [h1, h2]) (fun w' hw' hK hF => ?_) (fun v hv => ?_)
    · have hF2 : WorkAtd B xb (n + 1) w' s := hF
      obtain ⟨g3, e3, hb3, _⟩ := (hK 10 (by kernel_rfl)).2
      have hgg : gl = g3 := by simpa using e3
      subst hgg
      obtain ⟨b10, A10, c10, e10, hb10, hw10, ho10⟩ := (hK 6 (by kernel_rfl)).2
      have hee : bw = b10 := by simpa using e10
      subst hee
      obtain ⟨q11, A11, c11, e11, hq11, hw11, ho11⟩ := (hK 8 (by kernel_rfl)).2
      have hee : qc = q11 := by simpa using e11
      subst hee
      have hb3' : w'.heap[gl]? = some (.cells #[walkVd bw, .pointer (some ⟨qc, 0, none⟩)] 218 (0, 0)) := hb3
      have hXs := hw'.size
      refine opAt_list rfl #[] (fun Q hQ => ?_)
      refine wpList_append_apart rfl _ _ 117 rfl B 218 i1 _ 2 16 Try.underlying117 hi1 hz1 hzz1 hzz2 rfl (by decide) _ s.ws.length _ rfl hF2.pt.wks.row ⟨gl, 0, none⟩ 1 1 (Wlk.valsd ⟨bw, A10, c10, qc, A11, c11, s.p.L who⟩) rfl rfl (fun j u hj => by rw [Addr.add_lit, cell_of_row _ _ _ _ _ _ hb3', Nat.zero_add]; simpa [Wlk.valsd] using hj) (one_kpd _) (by decide) (by unfold maxLen; omega) (by omega) (by omega) ?_
      intro v' w8 ho8 hc8
      obtain ⟨row8, hg8, hr8⟩ := grown_row hF2.pt.wks.row hc8
      have hd8 := blk_kept hg8 hr8 hF2.hd (by decide)
      have hx8 : Exc (DK w4.heap.size xb s.Aw s.ws.length s.cw) w' w8 := by
        rcases grown_one hF2.pt.wks.row hc8 with ⟨b, y, h1, _, _, hx, _⟩ | ⟨hx, _⟩
        · exact ⟨hx.os, hx.tape, hx.output, hx.size, fun k o hk hn => hx.block k o hk (fun e => hn ⟨by rw [e]; exact hxo b h1, .inr (by rw [h1, e])⟩)⟩
        · exact Exc.of_ext hx
      obtain ⟨A12, c12, rfl, hp8, _⟩ := Prtd.hold (t := ⟨bw, A10, c10, qc, A11, c11, s.p.L who⟩) hF2.pt ho8 hc8 hw10 (by rw [HEQ.out]; exact hw11) (by simp only; omega) (by omega) (fun i hi (e : qc = s.r.P i) => by have := hlr i hi; omega) (fun (e : (Value.slice s.At s.ts.length s.ct).ownBlock = some bw) => by have := hlo _ e; omega) (fun u hu q hq (e : (Value.slice A10 (s.p.L who).length c10).ownBlock = some q) => by have h1 := (hlw u hu q hq).2; have h2 := ho10 q e; omega)
      exact hQ _ _ ⟨hx8, A12, c12, ⟨bw, A10, c10, qc, A11, c11, s.p.L who⟩, rfl, rfl, rfl, hp8, hd8⟩
    obtain ⟨A12, c12, rfl⟩ : ∃ A c, v = .slice A (s.ws.length + 1) c := by
      obtain ⟨_, _, A, c, _, _, _, h, _⟩ := hv
      exact ⟨A, c, h⟩
    clear hv
    simp only [Act.put, List.setIfInBounds_toArray, List.set_cons_succ, List.set_cons_zero]
    repeat (first | (apply wpR_one; (case ho => (simp only [List.getElem?_toArray, List.getElem?_cons_succ, List.getElem?_cons_zero]; try exact rfl)); (case hw => rfl); (case hl => rfl); (case hsp => rfl); (case he => rfl); (case hv => (intro w' hw'; (try (have hw2 := Ext.trans hEW hw')); (try (have hw3 := Exc.trans hEW hw')); (try (have hw4 := Exk.trans hEW hw')); (try (have hw5 := Mrk.trans hEW hw')); go_simp; exact rfl)); (case hw0 => (first | exact Below.refl _ _ | exact Exc.of_ext (Below.refl _ _) | exact Exk.of_ext (Below.refl _ _) | exact Mrk.of_ext (Below.refl _ _))); simp only [Act.put, List.setIfInBounds_toArray, List.set_cons_succ, List.set_cons_zero]) | (apply wpR_early; (case ho => (simp only [List.getElem?_toArray, List.getElem?_cons_succ, List.getElem?_cons_zero]; try exact rfl)); (case hw => rfl); (case hl => rfl); (case hsp => rfl); (case he => rfl); (case hv => (intro w' hw'; (try have hw2 := Ext.trans hEW hw'); go_simp; exact rfl)); simp only [Act.put, List.setIfInBounds_toArray, List.set_cons_succ, List.set_cons_zero]) | (apply wpR_pass; (case ho => (simp only [List.getElem?_toArray, List.getElem?_cons_succ, List.getElem?_cons_zero]; try exact rfl)); (case hw => rfl); (case hl => rfl); simp only [Act.put, List.setIfInBounds_toArray, List.set_cons_succ, List.set_cons_zero]))
    refine wpR_late (by ((simp only [List.getElem?_toArray, List.getElem?_cons_succ, List.getElem?_cons_zero]; try exact rfl))) _ rfl rfl (fun V v => FinKd.lasts _ _ _ _) (fun V V' h => rfl) (fun w' hw' hK hF => ?_) (fun v hv => ?_)
    · obtain ⟨A13, c13, t13, _, _, e12, hp12, hd12⟩ := hF
      have hee : A12 = A13 ∧ c12 = c13 := by simpa using e12
      obtain ⟨rfl, rfl⟩ := hee
      have hfin : WorkAtd B xb (n + 1) (w'.setCell ⟨xb, 6, none⟩ (.slice A12 (s.ws.length + 1) c12)) { s with Aw := A12, cw := c12, ws := s.ws ++ [t13] } := WorkAtd.stored hd12 h4B hp12 (by unfold Wk.cells; simp)
      have hxc : Exc (DK w4.heap.size xb s.Aw s.ws.length s.cw) w' (w'.setCell ⟨xb, 6, none⟩ (.slice A12 (s.ws.length + 1) c12)) := by
        have hx := setCell_excr w' xb 6 (.slice A12 (s.ws.length + 1) c12)
        exact ⟨hx.os, hx.tape, hx.output, hx.size, fun k o hk hn => hx.block k o hk (fun e => hn ⟨by omega, .inl e⟩)⟩
      have c4 := cell_of_row w' xb 6 _ _ _ hd12
      have f4 := frozen_of_row w' xb 6 _ _ hd12
      simp only [Wk.cells, List.getElem?_toArray, List.getElem?_cons_zero, List.getElem?_cons_succ] at c4
      clear y6 hd12 hp12 hF0 e12
      unfold opAt
      go_simp
      exact ⟨undef, rfl, hxc, A12, c12, t13, hfin⟩
    clear hv
    simp only [Act.put, List.setIfInBounds_toArray, List.set_cons_succ, List.set_cons_zero]
    repeat (first | (apply wpR_one; (case ho => (simp only [List.getElem?_toArray, List.getElem?_cons_succ, List.getElem?_cons_zero]; try exact rfl)); (case hw => rfl); (case hl => rfl); (case hsp => rfl); (case he => rfl); (case hv => (intro w' hw'; (try (have hw2 := Ext.trans hEW hw')); (try (have hw3 := Exc.trans hEW hw')); (try (have hw4 := Exk.trans hEW hw')); (try (have hw5 := Mrk.trans hEW hw')); go_simp; exact rfl)); (case hw0 => (first | exact Below.refl _ _ | exact Exc.of_ext (Below.refl _ _) | exact Exk.of_ext (Below.refl _ _) | exact Mrk.of_ext (Below.refl _ _))); simp only [Act.put, List.setIfInBounds_toArray, List.set_cons_succ, List.set_cons_zero]) | (apply wpR_early; (case ho => (simp only [List.getElem?_toArray, List.getElem?_cons_succ, List.getElem?_cons_zero]; try exact rfl)); (case hw => rfl); (case hl => rfl); (case hsp => rfl); (case he => rfl); (case hv => (intro w' hw'; (try have hw2 := Ext.trans hEW hw'); go_simp; exact rfl)); simp only [Act.put, List.setIfInBounds_toArray, List.set_cons_succ, List.set_cons_zero]) | (apply wpR_pass; (case ho => (simp only [List.getElem?_toArray, List.getElem?_cons_succ, List.getElem?_cons_zero]; try exact rfl)); (case hw => rfl); (case hl => rfl); simp only [Act.put, List.setIfInBounds_toArray, List.set_cons_succ, List.set_cons_zero]))
    apply wpR_nil
    apply hN
    intro w8 hE8 hK hF
    obtain ⟨A14, c14, t14, h8⟩ : FinKd B xb (n + 1) s w8 := hF
    have hx8 : Exc (DB B) w w8 := (Exc.of_ext (hEw4.trans hW)).trans ⟨hE8.os, hE8.tape, hE8.output, hE8.size, fun k o hk hn => hE8.block k o hk (fun e => hn (e.2.elim (fun e => by subst e; exact db_of hk hF0.hB hF0.hd (by decide)) (fun e => by obtain ⟨a, cs, hb⟩ := own_blk hF0.pt.wks.row e; exact db_of hk a hb (by decide))))⟩
    clear hK hN y6 hRk hSk hEW hE8 hW hF0
    go_wp2
    go_ret
    exact ⟨_, rfl, h8, ⟨hok.eq, hok.tl⟩, hx8⟩
  by_cases hk12 : o.kind = 12
  · have hob4 := HOB.out
    have q6 := cell_of_row _ _ 6 _ _ _ h4.hd
    simp only [Wk.cells, List.getElem?_toArray, List.getElem?_cons_zero, List.getElem?_cons_succ] at q6
    by_cases hws : s.ws.length = 0
    · rw [hws] at q6
      go_wp2
      go_ret
      exact ⟨s, rfl, h4', hok, Exc.of_ext hEw4⟩
    · have hlst := leastN_le o.k
      obtain ⟨lk, hlk⟩ : ∃ l, leastN o.k = l := ⟨_, rfl⟩
      have hcnt := h4.pt.wks.cnt
      obtain ⟨j, hj⟩ : ∃ j, lk % s.ws.length = j := ⟨_, rfl⟩
      have hjl : j < s.ws.length := by rw [← hj]; exact Nat.mod_lt _ (by omega)
      obtain ⟨x, hx⟩ : ∃ x, s.ws[j]? = some x := ⟨_, List.getElem?_eq_getElem hjl⟩
      obtain ⟨g, hAw, hjc, hrd⟩ := h4.pt.wks.at hx
      have hxm := List.mem_of_getElem? hx
      have hwk := h4.pt.wks.wk x hxm
      have hof := h4.pt.wks.of x hxm
      have hln := h4.pt.wks.len x hxm
      obtain ⟨m, hm⟩ : ∃ m, s.ws.length = m := ⟨_, rfl⟩
      rw [hm] at hws hjl q6 hj hcnt
      rw [hAw] at q6
      have hmne : ¬ (m : Int) = 0 := by omega
      have hrem : Int.tmod (lk : Int) (m : Int) = (j : Int) := by rw [← hj]; rfl
      have hwrj : IntKind.i64.wrap (j : Int) = (j : Int) := by rw [IntKind.wrap_i64]; omega
      rw [hlk] at hlst
      have HLK := Lib.hid hlk
      have hjl2 : (j : Int) < (m : Int) := by omega
      have q6' : ∀ W, Ext w4 W → W.cell? ⟨xb, 6, none⟩ = some (.slice (some ⟨g, 0, none⟩) m s.cw) := fun W hh => by
        rw [cell_of_row _ _ 6 _ _ _ (h4.ext hh).hd]
        simp only [Wk.cells, List.getElem?_toArray, List.getElem?_cons_zero, List.getElem?_cons_succ]
        rw [hAw, hm]
      have o5' : ∀ W, Ext w4 W → W.cell? ⟨w.heap.size, 5, none⟩ = some (.int .i64 o.k) := fun W h => cell_of_row _ _ _ _ _ _ (h.blk hob4)
      have o3' : ∀ W, Ext w4 W → W.cell? ⟨w.heap.size, 3, none⟩ = some (.int .i64 o.lo) := fun W h => cell_of_row _ _ _ _ _ _ (h.blk hob4)
      clear hj hm hAw hx hxm hlk hob4
      go_wp2
      clear q6
      refine wp_region_rg (Exc fun q _ => w4.heap.size ≤ q) (rel_exc _) (fun _ => True) [0, 1, 2, 3, 4, 5, 6, 7, 8, 9, 10, 11, 12, 13, 14, 15, 16] (fun i => match i with | 6 => some fun _ z _ => z = .int .i64 lk | _ => none) (fun i => match i with
        | 15 => some fun _ z V => BoxKd w4.heap.size #[.nilFunc, .pointer none] z V
        | 16 => some fun V z W => BoxKd w4.heap.size #[walkVd x.b, .pointer (some ⟨x.q, 0, none⟩)] (V 15) W
        | _ => none) (fun _ => false) (by kernel_rfl) (by kernel_rfl) (fun _ _ _ _ => trivial) trivial (fun W N hW _ hN => ?_)
      have hEx : ∀ w', Exc (fun q _ => w4.heap.size ≤ q) W w' → Ext w4 w' := fun w' h => h.to_ext hW (fun _ _ h => h)
      have hEW : Exc (fun q _ => w4.heap.size ≤ q) W W := exc_refl _ _
      have y6 : ∀ w', Exc (fun q _ => w4.heap.size ≤ q) W w' → w'.cell? ⟨xb, 6, none⟩ = some (.slice (some ⟨g, 0, none⟩) m s.cw) := fun w' h => q6' w' (hEx w' h)
      have y5 : ∀ w', Exc (fun q _ => w4.heap.size ≤ q) W w' → w'.cell? ⟨w.heap.size, 5, none⟩ = some (.int .i64 o.k) := fun w' h => o5' w' (hEx w' h)
      have yg : ∀ w', Exc (fun q _ => w4.heap.size ≤ q) W w' → w'.cell? ⟨g, j * 2, none⟩ = some (walkVd x.b) := fun w' h => (hrd w' (hEx w' h)).1
      have yh : ∀ w', Exc (fun q _ => w4.heap.size ≤ q) W w' → w'.cell? ⟨g, j * 2 + 1, none⟩ = some (.pointer (some ⟨x.q, 0, none⟩)) := fun w' h => (hrd w' (hEx w' h)).2
      have hWs := hW.size
      repeat (first | (apply wpR_one; (case ho => (simp only [List.getElem?_toArray, List.getElem?_cons_succ, List.getElem?_cons_zero]; try exact rfl)); (case hw => rfl); (case hl => rfl); (case hsp => rfl); (case he => rfl); (case hv => (intro w' hw'; (try (have hw2 := Ext.trans hEW hw')); (try (have hw3 := Exc.trans hEW hw')); (try (have hw4 := Exk.trans hEW hw')); (try (have hw5 := Mrk.trans hEW hw')); go_simp; exact rfl)); (case hw0 => (first | exact Below.refl _ _ | exact Exc.of_ext (Below.refl _ _) | exact Exk.of_ext (Below.refl _ _) | exact Mrk.of_ext (Below.refl _ _))); simp only [Act.put, List.setIfInBounds_toArray, List.set_cons_succ, List.set_cons_zero]) | (apply wpR_early; (case ho => (simp only [List.getElem?_toArray, List.getElem?_cons_succ, List.getElem?_cons_zero]; try exact rfl)); (case hw => rfl); (case hl => rfl); (case hsp => rfl); (case he => rfl); (case hv => (intro w' hw'; (try have hw2 := Ext.trans hEW hw'); go_simp; exact rfl)); simp only [Act.put, List.setIfInBounds_toArray, List.set_cons_succ, List.set_cons_zero]) | (apply wpR_pass; (case ho => (simp only [List.getElem?_toArray, List.getElem?_cons_succ, List.getElem?_cons_zero]; try exact rfl)); (case hw => rfl); (case hl => rfl); simp only [Act.put, List.setIfInBounds_toArray, List.set_cons_succ, List.set_cons_zero]))
      refine wpR_new (by ((simp only [List.getElem?_toArray, List.getElem?_cons_succ, List.getElem?_cons_zero]; try exact rfl))) _ rfl rfl rfl (fun V v => Lasts.pure) (fun V V' h => rfl) (fun w' hw' hK => ?_) (fun z hz => ?_)
      · unfold opAt; go_simp; refine upAt_enter ?_
        refine least_any.mono ?_
        rintro e w5 ⟨rfl, rfl⟩
        exact ⟨_, rfl, Below.refl _ _, by rw [HLK.out]⟩
      obtain ⟨_, _, _, rfl⟩ := hz
      simp only [Act.put, List.setIfInBounds_toArray, List.set_cons_succ, List.set_cons_zero]
      repeat (first | (apply wpR_one; (case ho => (simp only [List.getElem?_toArray, List.getElem?_cons_succ, List.getElem?_cons_zero]; try exact rfl)); (case hw => rfl); (case hl => rfl); (case hsp => rfl); (case he => rfl); (case hv => (intro w' hw'; (try (have hw2 := Ext.trans hEW hw')); (try (have hw3 := Exc.trans hEW hw')); (try (have hw4 := Exk.trans hEW hw')); (try (have hw5 := Mrk.trans hEW hw')); go_simp; exact rfl)); (case hw0 => (first | exact Below.refl _ _ | exact Exc.of_ext (Below.refl _ _) | exact Exk.of_ext (Below.refl _ _) | exact Mrk.of_ext (Below.refl _ _))); simp only [Act.put, List.setIfInBounds_toArray, List.set_cons_succ, List.set_cons_zero]) | (apply wpR_early; (case ho => (simp only [List.getElem?_toArray, List.getElem?_cons_succ, List.getElem?_cons_zero]; try exact rfl)); (case hw => rfl); (case hl => rfl); (case hsp => rfl); (case he => rfl); (case hv => (intro w' hw'; (try have hw2 := Ext.trans hEW hw'); go_simp; exact rfl)); simp only [Act.put, List.setIfInBounds_toArray, List.set_cons_succ, List.set_cons_zero]) | (apply wpR_pass; (case ho => (simp only [List.getElem?_toArray, List.getElem?_cons_succ, List.getElem?_cons_zero]; try exact rfl)); (case hw => rfl); (case hl => rfl); simp only [Act.put, List.setIfInBounds_toArray, List.set_cons_succ, List.set_cons_zero]))
      refine wpR_late (by ((simp only [List.getElem?_toArray, List.getElem?_cons_succ, List.getElem?_cons_zero]; try exact rfl))) _ rfl rfl (fun V v => BoxKd.lasts _ _ _) (fun V V' h => rfl) (fun w' hw' hK hF => ?_) (fun v hv => ?_)
      · have hs := hw'.size
        clear y6 y5 yg yh
        unfold opAt
        go_simp
        exact upAt_value ⟨Exc.of_ext (ext_alloc _ _), _, rfl, by omega, heap_alloc_new _ _⟩
      obtain ⟨gb, rfl⟩ : ∃ g, v = .pointer (some ⟨g, 0, none⟩) := by
        obtain ⟨_, _, g, h, _⟩ := hv
        exact ⟨g, h⟩
      clear hv
      simp only [Act.put, List.setIfInBounds_toArray, List.set_cons_succ, List.set_cons_zero]
      refine wpR_late (by ((simp only [List.getElem?_toArray, List.getElem?_cons_succ, List.getElem?_cons_zero]; try exact rfl))) _ rfl rfl (fun V v => BoxKd.lasts _ _ _) (fun V V' h => by have := h 15 (by kernel_rfl); simp only [this]) (fun w' hw' hK hF => ?_) (fun v hv => ?_)
      · obtain ⟨g3, e3, hB3, hb3⟩ := hF
        have hgg : gb = g3 := by simpa using e3
        subst hgg
        refine opAt_list rfl #[] (fun Q hQ => ?_)
        refine wpList_store_box rfl _ _ _ rfl gb #[walkVd x.b, .pointer (some ⟨x.q, 0, none⟩)] rfl rfl _ _ hb3 (by kernel_rfl) rfl (by simp [Value.oneCell']) ?_
        intro w5 h5 hg5
        exact hQ _ _ ⟨Exc.of_grown hg5 (fun q o h _ => by injection h with h; subst h; exact hB3), gb, rfl, hB3, h5⟩
      clear hv
      simp only [Act.put, List.setIfInBounds_toArray, List.set_cons_succ, List.set_cons_zero]
      apply wpR_nil
      apply hN
      intro w5 hE5 hK hF
      obtain ⟨g3, e3, hB3, hb3⟩ := hF
      have hgg : gb = g3 := by simpa [Kr.upd, Kr.late] using e3
      subst hgg
      have hE45 := hEx w5 hE5
      clear hK hN e3 y6 y5 yg yh hEx hW hEW hE5 hrem hwrj q6'
      have z0 : ∀ W, Ext w5 W → W.cell? ⟨gb, 0, none⟩ = some (walkVd x.b) := fun W h => cell_of_row _ _ _ _ _ _ (h.blk hb3)
      have z1 : ∀ W, Ext w5 W → W.cell? ⟨gb, 1, none⟩ = some (.pointer (some ⟨x.q, 0, none⟩)) := fun W h => cell_of_row _ _ _ _ _ _ (h.blk hb3)
      have z3 : ∀ W, Ext w5 W → W.cell? ⟨w.heap.size, 3, none⟩ = some (.int .i64 o.lo) := fun W h => o3' W (hE45.trans h)
      go_wp2
      refine wp_region_rg Ext rel_ext (fun _ => True) [0, 1, 2, 3, 4, 5, 6, 7, 8] (fun i => match i with | 6 => some fun _ z _ => z = .int .i64 (leastN o.lo) | 7 => some fun _ z _ => z = .bool true | _ => none) (fun _ => none) (fun _ => false) (by kernel_rfl) (by kernel_rfl) (fun _ _ _ _ => trivial) trivial (fun W N hW _ hN => ?_)
      have hEW := hW
      repeat (first | (apply wpR_one; (case ho => (simp only [List.getElem?_toArray, List.getElem?_cons_succ, List.getElem?_cons_zero]; try exact rfl)); (case hw => rfl); (case hl => rfl); (case hsp => rfl); (case he => rfl); (case hv => (intro w' hw'; (try (have hw2 := Ext.trans hEW hw')); (try (have hw3 := Exc.trans hEW hw')); (try (have hw4 := Exk.trans hEW hw')); (try (have hw5 := Mrk.trans hEW hw')); go_simp; exact rfl)); (case hw0 => (first | exact Below.refl _ _ | exact Exc.of_ext (Below.refl _ _) | exact Exk.of_ext (Below.refl _ _) | exact Mrk.of_ext (Below.refl _ _))); simp only [Act.put, List.setIfInBounds_toArray, List.set_cons_succ, List.set_cons_zero]) | (apply wpR_early; (case ho => (simp only [List.getElem?_toArray, List.getElem?_cons_succ, List.getElem?_cons_zero]; try exact rfl)); (case hw => rfl); (case hl => rfl); (case hsp => rfl); (case he => rfl); (case hv => (intro w' hw'; (try have hw2 := Ext.trans hEW hw'); go_simp; exact rfl)); simp only [Act.put, List.setIfInBounds_toArray, List.set_cons_succ, List.set_cons_zero]) | (apply wpR_pass; (case ho => (simp only [List.getElem?_toArray, List.getElem?_cons_succ, List.getElem?_cons_zero]; try exact rfl)); (case hw => rfl); (case hl => rfl); simp only [Act.put, List.setIfInBounds_toArray, List.set_cons_succ, List.set_cons_zero]))
      refine wpR_new (by ((simp only [List.getElem?_toArray, List.getElem?_cons_succ, List.getElem?_cons_zero]; try exact rfl))) _ rfl rfl rfl (fun V v => Lasts.pure) (fun V V' h => rfl) (fun w' hw' hK => ?_) (fun z hz => ?_)
      · unfold opAt; go_simp; refine upAt_enter ?_
        refine least_any.mono ?_
        rintro e w6 ⟨rfl, rfl⟩
        exact ⟨_, rfl, Below.refl _ _, rfl⟩
      obtain ⟨_, _, _, rfl⟩ := hz
      simp only [Act.put, List.setIfInBounds_toArray, List.set_cons_succ, List.set_cons_zero]
      refine wpR_new (by ((simp only [List.getElem?_toArray, List.getElem?_cons_succ, List.getElem?_cons_zero]; try exact rfl))) _ rfl rfl rfl (fun V v => Lasts.pure) (fun V V' h => rfl) (fun w' hw' hK => ?_) (fun z hz => ?_)
      · have hll := leastN_le o.lo
        have hEE := hE45.trans (hEW.trans hw')
        clear hK
        unfold opAt; go_simp; refine upAt_enter ?_
        refine (goes_anyd (hwk.ext hEE) (hof.ext hEE) (by omega) hll).mono ?_
        rintro e w6 ⟨rfl, hE6⟩
        exact ⟨_, rfl, hE6, rfl⟩
      obtain ⟨_, _, _, rfl⟩ := hz
      simp only [Act.put, List.setIfInBounds_toArray, List.set_cons_succ, List.set_cons_zero]
      repeat (first | (apply wpR_one; (case ho => (simp only [List.getElem?_toArray, List.getElem?_cons_succ, List.getElem?_cons_zero]; try exact rfl)); (case hw => rfl); (case hl => rfl); (case hsp => rfl); (case he => rfl); (case hv => (intro w' hw'; (try (have hw2 := Ext.trans hEW hw')); (try (have hw3 := Exc.trans hEW hw')); (try (have hw4 := Exk.trans hEW hw')); (try (have hw5 := Mrk.trans hEW hw')); go_simp; exact rfl)); (case hw0 => (first | exact Below.refl _ _ | exact Exc.of_ext (Below.refl _ _) | exact Exk.of_ext (Below.refl _ _) | exact Mrk.of_ext (Below.refl _ _))); simp only [Act.put, List.setIfInBounds_toArray, List.set_cons_succ, List.set_cons_zero]) | (apply wpR_early; (case ho => (simp only [List.getElem?_toArray, List.getElem?_cons_succ, List.getElem?_cons_zero]; try exact rfl)); (case hw => rfl); (case hl => rfl); (case hsp => rfl); (case he => rfl); (case hv => (intro w' hw'; (try have hw2 := Ext.trans hEW hw'); go_simp; exact rfl)); simp only [Act.put, List.setIfInBounds_toArray, List.set_cons_succ, List.set_cons_zero]) | (apply wpR_pass; (case ho => (simp only [List.getElem?_toArray, List.getElem?_cons_succ, List.getElem?_cons_zero]; try exact rfl)); (case hw => rfl); (case hl => rfl); simp only [Act.put, List.setIfInBounds_toArray, List.set_cons_succ, List.set_cons_zero]))
      apply wpR_nil
      apply hN
      intro w6 hE6 hK _
      have hEE := hE45.trans (hEW.trans hE6)
      clear hK hN z0 z1 z3 hW hEW hE6
      go_wp2
      go_ret
      exact ⟨s, rfl, h4'.ext hEE, hok, Exc.of_ext (hEw4.trans hEE)⟩
  go_wp2_with (refine wpList_load_row rfl _ _ rfl w.heap.size rfl _ _ _ _ HOB.out Try.underlying89 rfl (by kernel_rfl) ?_)
  refine (renew_anyd (n := n) h4 hok hn1 hn2 (ho.below (hEw4.mono hBw))).mono ?_
  rintro e w5 ⟨s5, rfl, h5, hok5, hX5⟩
  go_wp2
  go_ret
  exact ⟨s5, rfl, h5, hok5, (Exc.of_ext hEw4).trans hX5⟩
end Go.Proofs.Ytffapgemacbdjaa
