/- The contract of coppiceref12.Split. No condition but that what comes in lies in memory. -/
import Derived.Test.YtjjbckdiojleeaaRsmall
import Derived.Test.YtjjbckdiojleeaaNsplit
import Derived.Test.YtjjbckdiojleeaaSpank
namespace Go.Proofs.Ytjjbckdiojleeaa
set_option linter.unusedVariables false
open Go.RowKit Go.Proofs
set_option maxHeartbeats 8000000 in
theorem rsplit_any {v : Value} {p : Pg} {w : World} (hv : PgV w v p) :
    Calls Try.prog 23 #[v] w fun e w' => ∃ v1 v2 A' c', e = .returned (.tuple #[v1, v2, .slice A' (part3 (splitB p)).length c', .bool (splitB p).isSome]) ∧
      PgO w.heap.size w' v1 (part1 (splitB p)) ∧ PgO w.heap.size w' v2 (part2 (splitB p)) ∧ Own 5 w.heap.size w' A' c' (part3 (splitB p)) ∧ Ext w w' := by
  obtain ⟨iA, ic, dA, dc, rfl, hi, hd⟩ := hv.ex
  have hil := hi.len
  have hEE := ((ext_alloc w (.cells #[.int .i64 p.kind, .int .i64 p.level, .slice iA p.items.length ic, .slice dA p.data.length dc, .int .i64 p.next] 26)).trans (ext_alloc _ (.cells #[.int .i64 0, .int .i64 0, .slice none 0 0, .slice none 0 0, .int .i64 0] 26))).trans (ext_alloc _ (.cells #[.int .i64 0, .int .i64 0, .slice none 0 0, .slice none 0 0, .int .i64 0] 26))
  have k0 := (ext_alloc _ (.cells #[.int .i64 0, .int .i64 0, .slice none 0 0, .slice none 0 0, .int .i64 0] 26)).blk (heap_alloc2_old w (.cells #[.int .i64 p.kind, .int .i64 p.level, .slice iA p.items.length ic, .slice dA p.data.length dc, .int .i64 p.next] 26) (.cells #[.int .i64 0, .int .i64 0, .slice none 0 0, .slice none 0 0, .int .i64 0] 26))
  have k1 := (ext_alloc _ (.cells #[.int .i64 0, .int .i64 0, .slice none 0 0, .slice none 0 0, .int .i64 0] 26)).blk (heap_alloc2_new w (.cells #[.int .i64 p.kind, .int .i64 p.level, .slice iA p.items.length ic, .slice dA p.data.length dc, .int .i64 p.next] 26) (.cells #[.int .i64 0, .int .i64 0, .slice none 0 0, .slice none 0 0, .int .i64 0] 26))
  have k2 := heap_alloc_at ((w.alloc (.cells #[.int .i64 p.kind, .int .i64 p.level, .slice iA p.items.length ic, .slice dA p.data.length dc, .int .i64 p.next] 26)).alloc (.cells #[.int .i64 0, .int .i64 0, .slice none 0 0, .slice none 0 0, .int .i64 0] 26)) (.cells #[.int .i64 0, .int .i64 0, .slice none 0 0, .slice none 0 0, .int .i64 0] 26) (w.heap.size + 1 + 1) (by simp)
  have K0 := Lib.hid k0
  have K1 := Lib.hid k1
  have K2 := Lib.hid k2
  clear k0 k1 k2
  go_enter Try.func23, Try.ntmps23
  go_wp2_with fail
  refine rmeant_any.mono ?_
  rintro e w1 ⟨rfl, hE1⟩
  have b0 := hE1.blk K0.out
  have b1 := hE1.blk K1.out
  have b2 := hE1.blk K2.out
  have hE := hEE.trans hE1
  have p0 := cell_of_row w1 w.heap.size 0 _ _ _ b0
  have p1 := cell_of_row w1 w.heap.size 1 _ _ _ b0
  have p2 := cell_of_row w1 w.heap.size 2 _ _ _ b0
  have p3 := cell_of_row w1 w.heap.size 3 _ _ _ b0
  have p4 := cell_of_row w1 w.heap.size 4 _ _ _ b0
  simp at p0 p1 p2 p3 p4
  have B0 := b0
  clear b0
  by_cases hok : meantB p.kind = true ∧ p.items.length = 8
  rotate_left
  · have HQ := Lib.hid (show splitB p = none by unfold splitB; rw [if_neg hok])
    have hcs : meantB p.kind = false ∨ (meantB p.kind = true ∧ ((p.items.length : Int) != 8) = true) := by
      cases hz : meantB p.kind
      · exact .inl rfl
      · right
        refine ⟨rfl, ?_⟩
        have : ¬ p.items.length = 8 := fun h => hok ⟨hz, h⟩
        rw [bne_iff_ne]; omega
    clear hok
    rcases hcs with h1 | ⟨h1, h2⟩
    all_goals
      rw [h1]
      clear h1
      go_wp2_with (first | (refine wpList_store_box rfl 26 (.tmp 2) _ rfl (w.heap.size + 1) _ rfl rfl 26 _ b1 (by kernel_rfl) rfl (by simp [Value.oneCell']) (fun w6 hb hg => ?_); have b2' := blk_other b2 hg (by omega); have hE6 := ext_only hE hg (by omega); clear b2) | (refine wpList_store_box rfl 26 (.tmp 3) _ rfl (w.heap.size + 1 + 1) _ rfl rfl 26 _ b2' (by kernel_rfl) rfl (by simp [Value.oneCell']) (fun w7 hb' hg' => ?_)))
      refine bodyPost_ret (results_rrtt rfl _ _ _ _ _ _ _ _ _ _ _ _ rfl (blk_other hb hg' (by omega)) Try.underlying26 rfl (by kernel_rfl) rfl hb' Try.underlying26 rfl (by kernel_rfl)) rfl ⟨_, _, none, 0, by rw [HQ.out]; rfl, by rw [HQ.out]; exact PgO.zero _ _, ?_, ?_, ext_only hE6 hg' (by omega)⟩
      · rw [HQ.out]; exact PgO.zero _ _
      · rw [HQ.out]; exact ⟨rfl, .inl ⟨rfl, rfl⟩⟩
  have HQ := Lib.hid (show splitB p = partB p p p.items 4 by unfold splitB; rw [if_pos hok])
  obtain ⟨h1, h2⟩ := hok
  rw [h1]
  have h3 : ((p.items.length : Int) != 8) = false := by simp [h2]
  have H2 := Lib.hid h2
  clear h1 h2
  have HB0 := Lib.hid B0
  have HB1 := Lib.hid b1
  have HB2 := Lib.hid b2
  have hw1 : w.heap.size + 3 ≤ w1.heap.size := (Array.getElem?_eq_some_iff.1 b2).1
  have hic := hi.le
  have hv0 := hv
  clear hv
  have hcap := hi.cap
  clear b1 b2
  have i1 : 4 ≤ p.items.length := by have := H2.out; omega
  obtain ⟨ib, io, rfl, _⟩ := hi.rd (by omega)
  have i5 : (ic : Int) - 4 ≠ 0 := by have := H2.out; omega
  have i6 : ¬ ic = 4 := by have := H2.out; omega
  have i2 : 4 ≤ ic := by omega
  have i3 : (4 : Int) ≤ (p.items.length : Int) := by omega
  have i4 : (4 : Int) ≤ (ic : Int) := by omega
  go_wp2_with fail
  clear p0 p1 p2 p3 p4
  refine wp_region_rg (Exk (PgBlk w1.heap.size)) (rel_exk _) (fun _ => True) [0, 1, 2, 3, 4, 5, 6] (fun i => match i with
    | 4 => some fun V v w' => PgO w1.heap.size w' v { p with items := p.items.take 4 }
    | 5 => some fun V => PgCell w1.heap.size
    | _ => none) (fun i => match i with
    | 6 => some fun V _ => StoredAt w1.heap.size (V 4) (V 5)
    | _ => none) (fun _ => false) (by kernel_rfl) (by kernel_rfl) (fun _ _ h he => trivial) trivial (fun W N hW hF0 hN => ?_)
  have hEW : Exk (PgBlk w1.heap.size) w1 W := Exk.of_ext hW
  have hX : ∀ w', Exk (PgBlk w1.heap.size) W w' → Ext w w' := fun w' h => (Exk.trans hEW h).x.to_ext hE (fun k _ hk => by have := hk.1; omega)
  have ea0 : ∀ w', Exk (PgBlk w1.heap.size) w1 w' → w'.cell? ⟨w.heap.size, 0, none⟩ = some (.int .i64 p.kind) := fun w' h => cell_of_row _ _ _ _ _ _ (h.x.blk HB0.out (PgBlk.notLt (by omega)))
  have ea1 : ∀ w', Exk (PgBlk w1.heap.size) w1 w' → w'.cell? ⟨w.heap.size, 1, none⟩ = some (.int .i64 p.level) := fun w' h => cell_of_row _ _ _ _ _ _ (h.x.blk HB0.out (PgBlk.notLt (by omega)))
  have ea2 : ∀ w', Exk (PgBlk w1.heap.size) w1 w' → w'.cell? ⟨w.heap.size, 2, none⟩ = some (.slice (some ⟨ib, io, none⟩) p.items.length ic) := fun w' h => cell_of_row _ _ _ _ _ _ (h.x.blk HB0.out (PgBlk.notLt (by omega)))
  have ea3 : ∀ w', Exk (PgBlk w1.heap.size) w1 w' → w'.cell? ⟨w.heap.size, 3, none⟩ = some (.slice dA p.data.length dc) := fun w' h => cell_of_row _ _ _ _ _ _ (h.x.blk HB0.out (PgBlk.notLt (by omega)))
  have ea4 : ∀ w', Exk (PgBlk w1.heap.size) w1 w' → w'.cell? ⟨w.heap.size, 4, none⟩ = some (.int .i64 p.next) := fun w' h => cell_of_row _ _ _ _ _ _ (h.x.blk HB0.out (PgBlk.notLt (by omega)))
  repeat (first | (apply wpR_one; (case ho => (simp only [List.getElem?_toArray, List.getElem?_cons_succ, List.getElem?_cons_zero]; try exact rfl)); (case hw => rfl); (case hl => rfl); (case hsp => rfl); (case he => rfl); (case hv => (intro w' hw'; (try (have hw2 := Ext.trans hEW hw')); (try (have hw3 := Exc.trans hEW hw')); (try (have hw4 := Exk.trans hEW hw')); (try (have hw5 := Mrk.trans hEW hw')); go_simp; exact rfl)); (case hw0 => (first | exact Below.refl _ _ | exact Exc.of_ext (Below.refl _ _) | exact Exk.of_ext (Below.refl _ _) | exact Mrk.of_ext (Below.refl _ _))); simp only [Act.put, List.setIfInBounds_toArray, List.set_cons_succ, List.set_cons_zero]) | (apply wpR_early; (case ho => (simp only [List.getElem?_toArray, List.getElem?_cons_succ, List.getElem?_cons_zero]; try exact rfl)); (case hw => rfl); (case hl => rfl); (case hsp => rfl); (case he => rfl); (case hv => (intro w' hw'; (try have hw2 := Ext.trans hEW hw'); go_simp; exact rfl)); simp only [Act.put, List.setIfInBounds_toArray, List.set_cons_succ, List.set_cons_zero]) | (apply wpR_pass; (case ho => (simp only [List.getElem?_toArray, List.getElem?_cons_succ, List.getElem?_cons_zero]; try exact rfl)); (case hw => rfl); (case hl => rfl); simp only [Act.put, List.setIfInBounds_toArray, List.set_cons_succ, List.set_cons_zero]))
  refine wpR_new (by ((simp only [List.getElem?_toArray, List.getElem?_cons_succ, List.getElem?_cons_zero]; try exact rfl))) _ rfl rfl rfl (fun V v => PgO.lastsK _ _) (fun V V' h => rfl) (fun w' hw' hK => ?_) (fun v hv => ?_)
  · have HX := Lib.hid (hX w' hw')
    clear hK
    unfold opAt; go_simp; refine upAt_enter ?_
    refine (rwith_any (hv0.ext HX.out) ((hi.ext HX.out).take 4 ic (by simp; omega) hcap) (by simp <;> omega)).mono ?_
    rintro e w2 ⟨v', rfl, hO, hE2⟩
    exact ⟨_, rfl, hE2, hO.mono (hEW.trans hw').x.size⟩
  obtain ⟨iA3, dA3, ic3, dc3, n3, HN3, rfl⟩ : ∃ iA' dA' ic' dc' n', Hid (n' = (p.items.take 4).length) ∧ v = .agg #[.int .i64 p.kind, .int .i64 p.level, .slice iA' n' ic', .slice dA' p.data.length dc', .int .i64 p.next] := by
    obtain ⟨_, _, _, hO⟩ := hv
    obtain ⟨iA', ic', dA', dc', ps, e, _⟩ := hO.ex
    exact ⟨_, _, _, _, _, Lib.hid rfl, e⟩
  clear hv
  simp only [Act.put, List.setIfInBounds_toArray, List.set_cons_succ, List.set_cons_zero]
  refine wpR_alloc (by ((simp only [List.getElem?_toArray, List.getElem?_cons_succ, List.getElem?_cons_zero]; try exact rfl))) _ rfl rfl rfl (fun V v => PgCell.lasts _ _) (fun V V' h => rfl) (fun w' hw' hK => ?_) (fun v hv => ?_)
  · have hXs := (hEW.trans hw').x.size
    unfold opAt
    go_simp
    exact upAt_value ⟨ext_alloc _ _, ⟨_, rfl, hXs, _, heap_alloc_new _ _, rfl⟩, fun _ g hg => by injection hg with hg; exact ⟨hg.symm, by simp⟩⟩
  obtain ⟨g3, rfl⟩ : ∃ g, v = .pointer (some ⟨g, 0, none⟩) := by
    obtain ⟨_, _, _, g, e, _⟩ := hv
    exact ⟨g, e⟩
  clear hv
  simp only [Act.put, List.setIfInBounds_toArray, List.set_cons_succ, List.set_cons_zero]
  refine wpR_late (by ((simp only [List.getElem?_toArray, List.getElem?_cons_succ, List.getElem?_cons_zero]; try exact rfl))) _ rfl rfl (fun V v w' w2 h he => h.ext he) (fun V V' h => by simp only [h 4 (by kernel_rfl), h 5 (by kernel_rfl)]) (fun w' hw' hK hF => ?_) (fun v hv => ?_)
  · obtain ⟨g, e8, hg8, cs, hb8, hs8⟩ := (hK 5 (by kernel_rfl)).2
    obtain rfl := ptr_inj (show Value.pointer (some ⟨g3, 0, none⟩) = _ from e8)
    refine opAt_list rfl #[] (fun Q hQ => ?_)
    refine wpList_store_box rfl 26 _ _ rfl g3 _ rfl rfl 26 _ hb8 (by kernel_rfl) hs8 (by simp [Value.oneCell']) (fun w2 hb hg => ?_)
    exact hQ _ _ ⟨Exk.of_only hg hb8 hb (by rw [hs8]; rfl) ⟨hg8, _, _, rfl⟩, ⟨g3, _, rfl, hg8, rfl, hb⟩⟩
  clear hv
  apply wpR_nil
  apply hN
  intro w3 hE' hK hF
  have hx := (hEW.trans hE').x
  have o3 : PgO w1.heap.size w3 _ { p with items := p.items.take 4 } := (hK 4).2
  obtain ⟨_, _, e, hg3, e', d3⟩ := hF
  obtain rfl := ptr_inj (show Value.pointer (some ⟨g3, 0, none⟩) = _ from e)
  injection e' with e'
  subst e'
  have hE3 := hX w3 hE'
  replace HB0 := Lib.hid (hx.blk HB0.out (PgBlk.notLt (by omega)))
  replace HB1 := Lib.hid (hx.blk HB1.out (PgBlk.notLt (by omega)))
  replace HB2 := Lib.hid (hx.blk HB2.out (PgBlk.notLt (by omega)))
  have hsz3 := hx.size
  clear hK hN e ea0 ea1 ea2 ea3 ea4 hX hEW hE' hW hF0 hx hE
  have hE := hE3
  clear hE3
  go_wp2_with fail
  refine wp_region_rg (Exk (PgBlk w3.heap.size)) (rel_exk _) (fun _ => True) [0, 1, 2, 3, 4, 5, 6] (fun i => match i with
    | 4 => some fun V v w' => PgO w3.heap.size w' v { p with items := p.items.drop 4 }
    | 5 => some fun V => PgCell w3.heap.size
    | _ => none) (fun i => match i with
    | 6 => some fun V _ => StoredAt w3.heap.size (V 4) (V 5)
    | _ => none) (fun _ => false) (by kernel_rfl) (by kernel_rfl) (fun _ _ h he => trivial) trivial (fun W N hW hF0 hN => ?_)
  have hEW : Exk (PgBlk w3.heap.size) w3 W := Exk.of_ext hW
  have hX : ∀ w', Exk (PgBlk w3.heap.size) W w' → Ext w w' := fun w' h => (Exk.trans hEW h).x.to_ext hE (fun k _ hk => by have := hk.1; omega)
  have ea0 : ∀ w', Exk (PgBlk w3.heap.size) w3 w' → w'.cell? ⟨w.heap.size, 0, none⟩ = some (.int .i64 p.kind) := fun w' h => cell_of_row _ _ _ _ _ _ (h.x.blk HB0.out (PgBlk.notLt (by omega)))
  have ea1 : ∀ w', Exk (PgBlk w3.heap.size) w3 w' → w'.cell? ⟨w.heap.size, 1, none⟩ = some (.int .i64 p.level) := fun w' h => cell_of_row _ _ _ _ _ _ (h.x.blk HB0.out (PgBlk.notLt (by omega)))
  have ea2 : ∀ w', Exk (PgBlk w3.heap.size) w3 w' → w'.cell? ⟨w.heap.size, 2, none⟩ = some (.slice (some ⟨ib, io, none⟩) p.items.length ic) := fun w' h => cell_of_row _ _ _ _ _ _ (h.x.blk HB0.out (PgBlk.notLt (by omega)))
  have ea3 : ∀ w', Exk (PgBlk w3.heap.size) w3 w' → w'.cell? ⟨w.heap.size, 3, none⟩ = some (.slice dA p.data.length dc) := fun w' h => cell_of_row _ _ _ _ _ _ (h.x.blk HB0.out (PgBlk.notLt (by omega)))
  have ea4 : ∀ w', Exk (PgBlk w3.heap.size) w3 w' → w'.cell? ⟨w.heap.size, 4, none⟩ = some (.int .i64 p.next) := fun w' h => cell_of_row _ _ _ _ _ _ (h.x.blk HB0.out (PgBlk.notLt (by omega)))
  repeat (first | (apply wpR_one; (case ho => (simp only [List.getElem?_toArray, List.getElem?_cons_succ, List.getElem?_cons_zero]; try exact rfl)); (case hw => rfl); (case hl => rfl); (case hsp => rfl); (case he => rfl); (case hv => (intro w' hw'; (try (have hw2 := Ext.trans hEW hw')); (try (have hw3 := Exc.trans hEW hw')); (try (have hw4 := Exk.trans hEW hw')); (try (have hw5 := Mrk.trans hEW hw')); go_simp; exact rfl)); (case hw0 => (first | exact Below.refl _ _ | exact Exc.of_ext (Below.refl _ _) | exact Exk.of_ext (Below.refl _ _) | exact Mrk.of_ext (Below.refl _ _))); simp only [Act.put, List.setIfInBounds_toArray, List.set_cons_succ, List.set_cons_zero]) | (apply wpR_early; (case ho => (simp only [List.getElem?_toArray, List.getElem?_cons_succ, List.getElem?_cons_zero]; try exact rfl)); (case hw => rfl); (case hl => rfl); (case hsp => rfl); (case he => rfl); (case hv => (intro w' hw'; (try have hw2 := Ext.trans hEW hw'); go_simp; exact rfl)); simp only [Act.put, List.setIfInBounds_toArray, List.set_cons_succ, List.set_cons_zero]) | (apply wpR_pass; (case ho => (simp only [List.getElem?_toArray, List.getElem?_cons_succ, List.getElem?_cons_zero]; try exact rfl)); (case hw => rfl); (case hl => rfl); simp only [Act.put, List.setIfInBounds_toArray, List.set_cons_succ, List.set_cons_zero]))
  refine wpR_new (by ((simp only [List.getElem?_toArray, List.getElem?_cons_succ, List.getElem?_cons_zero]; try exact rfl))) _ rfl rfl rfl (fun V v => PgO.lastsK _ _) (fun V V' h => rfl) (fun w' hw' hK => ?_) (fun v hv => ?_)
  · have HX := Lib.hid (hX w' hw')
    clear hK
    unfold opAt; go_simp; refine upAt_enter ?_
    refine (rwith_any (hv0.ext HX.out) ((hi.ext HX.out).drop 4 (by omega)) (by simp <;> omega)).mono ?_
    rintro e w2 ⟨v', rfl, hO, hE2⟩
    exact ⟨_, rfl, hE2, hO.mono (hEW.trans hw').x.size⟩
  obtain ⟨iA4, dA4, ic4, dc4, n4, HN4, rfl⟩ : ∃ iA' dA' ic' dc' n', Hid (n' = (p.items.drop 4).length) ∧ v = .agg #[.int .i64 p.kind, .int .i64 p.level, .slice iA' n' ic', .slice dA' p.data.length dc', .int .i64 p.next] := by
    obtain ⟨_, _, _, hO⟩ := hv
    obtain ⟨iA', ic', dA', dc', ps, e, _⟩ := hO.ex
    exact ⟨_, _, _, _, _, Lib.hid rfl, e⟩
  clear hv
  simp only [Act.put, List.setIfInBounds_toArray, List.set_cons_succ, List.set_cons_zero]
  refine wpR_alloc (by ((simp only [List.getElem?_toArray, List.getElem?_cons_succ, List.getElem?_cons_zero]; try exact rfl))) _ rfl rfl rfl (fun V v => PgCell.lasts _ _) (fun V V' h => rfl) (fun w' hw' hK => ?_) (fun v hv => ?_)
  · have hXs := (hEW.trans hw').x.size
    unfold opAt
    go_simp
    exact upAt_value ⟨ext_alloc _ _, ⟨_, rfl, hXs, _, heap_alloc_new _ _, rfl⟩, fun _ g hg => by injection hg with hg; exact ⟨hg.symm, by simp⟩⟩
  obtain ⟨g4, rfl⟩ : ∃ g, v = .pointer (some ⟨g, 0, none⟩) := by
    obtain ⟨_, _, _, g, e, _⟩ := hv
    exact ⟨g, e⟩
  clear hv
  simp only [Act.put, List.setIfInBounds_toArray, List.set_cons_succ, List.set_cons_zero]
  refine wpR_late (by ((simp only [List.getElem?_toArray, List.getElem?_cons_succ, List.getElem?_cons_zero]; try exact rfl))) _ rfl rfl (fun V v w' w2 h he => h.ext he) (fun V V' h => by simp only [h 4 (by kernel_rfl), h 5 (by kernel_rfl)]) (fun w' hw' hK hF => ?_) (fun v hv => ?_)
  · obtain ⟨g, e8, hg8, cs, hb8, hs8⟩ := (hK 5 (by kernel_rfl)).2
    obtain rfl := ptr_inj (show Value.pointer (some ⟨g4, 0, none⟩) = _ from e8)
    refine opAt_list rfl #[] (fun Q hQ => ?_)
    refine wpList_store_box rfl 26 _ _ rfl g4 _ rfl rfl 26 _ hb8 (by kernel_rfl) hs8 (by simp [Value.oneCell']) (fun w2 hb hg => ?_)
    exact hQ _ _ ⟨Exk.of_only hg hb8 hb (by rw [hs8]; rfl) ⟨hg8, _, _, rfl⟩, ⟨g4, _, rfl, hg8, rfl, hb⟩⟩
  clear hv
  apply wpR_nil
  apply hN
  intro w4 hE' hK hF
  have hx := (hEW.trans hE').x
  have o4 : PgO w3.heap.size w4 _ { p with items := p.items.drop 4 } := (hK 4).2
  obtain ⟨_, _, e, hg4, e', d4⟩ := hF
  obtain rfl := ptr_inj (show Value.pointer (some ⟨g4, 0, none⟩) = _ from e)
  injection e' with e'
  subst e'
  have hE4 := hX w4 hE'
  replace HB0 := Lib.hid (hx.blk HB0.out (PgBlk.notLt (by omega)))
  replace HB1 := Lib.hid (hx.blk HB1.out (PgBlk.notLt (by omega)))
  replace HB2 := Lib.hid (hx.blk HB2.out (PgBlk.notLt (by omega)))
  have hsz4 := hx.size
  have ra := rowApart_of o3 o4
  replace o3 := o3.exc hx (fun k cs h1 => PgBlk.not8) (fun k cs h1 => PgBlk.notI)
  have hg3w := (Array.getElem?_eq_some_iff.1 d3).1
  replace d3 := hx.blk d3 (PgBlk.notLt (by omega))
  clear hK hN e ea0 ea1 ea2 ea3 ea4 hX hEW hE' hW hF0 hx hE
  have hE := hE4
  clear hE4
  have HS0 := HQ
  have hne : g3 ≠ g4 := by omega
  have b0 := HB0.out
  have b2 := HB1.out
  have b3 := HB2.out
  have h2 : 4 < p.items.length := by have := H2.out; omega
  have hg1 : w.heap.size + 3 ≤ g3 := by omega
  have hg2 : w.heap.size + 3 ≤ g4 := by omega
  replace o3 := o3.mono (B' := w.heap.size + 3) (by omega)
  replace o4 := o4.mono (B' := w.heap.size + 3) (by omega)
  have HD := Lib.hid (show (p.items.drop 4).length = p.items.length - 4 by simp)
  have hT : Its w (some ⟨ib, io + 4 * 4, none⟩) (ic - 4) (p.items.drop 4) := hi.drop 4 (by omega)
  have hr := hi
  clear HB0 HB1 HB2 hsz3 hsz4 hg3w hEE K0 K1 K2 h3
  have p0 := cell_of_row w4 w.heap.size 0 _ _ _ b0
  have x0 := cell_of_row w4 g3 0 _ _ _ d3
  have x1 := cell_of_row w4 g3 1 _ _ _ d3
  have x2 := cell_of_row w4 g3 2 _ _ _ d3
  have x3 := cell_of_row w4 g3 3 _ _ _ d3
  have x4 := cell_of_row w4 g3 4 _ _ _ d3
  have y0 := cell_of_row w4 g4 0 _ _ _ d4
  have y1 := cell_of_row w4 g4 1 _ _ _ d4
  have y2 := cell_of_row w4 g4 2 _ _ _ d4
  have y3 := cell_of_row w4 g4 3 _ _ _ d4
  have y4 := cell_of_row w4 g4 4 _ _ _ d4
  simp only [List.getElem?_toArray, List.getElem?_cons_zero, List.getElem?_cons_succ] at p0 x0 x1 x2 x3 x4 y0 y1 y2 y3 y4
  have ho2 : ∃ ps, OwnIts (w.heap.size + 3) w4 iA4 ic4 (p.items.drop 4) ps ∧ Own 5 (w.heap.size + 3) w4 dA4 dc4 p.data ∧ ∀ a ∈ flat ps, NoShare (.slice dA4 p.data.length dc4) a := by
    obtain ⟨_, _, _, _, ps, e, k1, k2, k3⟩ := o4.ex
    obtain ⟨rfl, rfl, rfl, rfl⟩ := pgv_inj e
    exact ⟨ps, k1, k2, k3⟩
  obtain ⟨ps, k1, k2, k3⟩ := ho2
  have K1 := Lib.hid k1
  have K2 := Lib.hid k2
  have K3 := Lib.hid k3
  have B0 := Lib.hid b0
  clear b0 k1 k2 k3
  obtain ⟨x, hx⟩ : ∃ x, p.items[4]? = some x := ⟨_, List.getElem?_eq_getElem h2⟩
  have hx0 : (p.items.drop 4)[0]? = some x := by rw [List.getElem?_drop]; simpa using hx
  by_cases hk2 : p.kind = 2
  · have c1 : (p.kind == 2) = true := by simpa using hk2
    have HQ := Lib.hid (show partB p p p.items 4 = some ({ p with items := p.items.take 4 }, { p with items := (p.items.drop 4).modify 0 (·.keyed []) }, x.key) by
      unfold partB
      rw [if_pos hk2, List.getD_eq_getElem?_getD, hx]
      rfl)
    obtain ⟨gr, cp, hgA, hgB, _⟩ := World.ownsRow.form K1.out.row (by rw [HD.out]; omega)
    injection hgA with hA1 hA2 hA3
    subst hA1 hA3
    clear hA2
    obtain ⟨pr, hpr, ⟨kA, kc, hkv, hko⟩, _⟩ := K1.out.each.at_ hx0
    have z0 := World.ownsRow.cellAt K1.out.row 0 (by rw [HD.out]; omega)
    have z0' := rowCells_at ps _ 0 0 pr x hpr hx0 (by omega)
    simp only [Nat.zero_mul, Nat.zero_add] at z0'
    rw [z0'] at z0
    simp only [itCells, hkv, List.getElem?_cons_zero] at z0
    have h44 : w.heap.size + 3 ≤ w4.heap.size := (Array.getElem?_eq_some_iff.1 b3).1
    have hkl : x.key.length ≤ 140737488355328 := by
      obtain ⟨_, _, hcx⟩ := hi.rd (by omega)
      obtain ⟨_, hcc⟩ := hcx
      obtain ⟨_, _, _, _, _, _, _, _, hs, _⟩ := hcc 4 x hx
      exact hs.len
    have hn2 : 0 < n4 := by rw [HN4.out, HD.out]; omega
    have hn2i : (0 : Int) < (n4 : Int) := by omega
    go_wp2_with fail
    refine (copyBytes_any (hko.sl hkl)).mono ?_
    rintro e w6 ⟨sA, sc, rfl, hsep, hE6⟩
    replace K1 := Lib.hid (K1.out.ext hE6)
    replace K2 := Lib.hid (K2.out.ext hE6)
    replace d3 := hE6.blk d3
    replace d4 := hE6.blk d4
    replace b2 := hE6.blk b2
    replace b3 := hE6.blk b3
    replace o3 := o3.ext hE6
    replace o4 := o4.ext hE6
    replace hE := hE.trans hE6
    replace y2 := hE6.cell y2
    replace z0 := hE6.cell z0
    replace hko : Own 5 (w.heap.size + 3) w6 sA sc x.key := Own.mono hsep h44
    clear p0 B0
    have f0 := World.ownsRow.frozenAt K1.out.row 0
    have hty : ∀ g cs, w6.heap[g]? = some (.cells cs 26 (0, 0)) → g ≠ gr := fun g cs h e => by
      subst e
      rcases K1.out.row.2 with ⟨h0, _⟩ | ⟨g', cap, cur, e', _, hg', _⟩
      · cases h0
      · obtain rfl := sl_inj e'
        rw [h] at hg'
        injection hg' with hg'
        injection hg' with _ e
        exact absurd e (by decide)
    have hm0 : (p.items.drop 4).modify 0 (·.keyed []) = (p.items.drop 4).set 0 (x.keyed []) := modify_at _ hx0
    have hmem : pr.1 ∈ flat ps := by
      obtain ⟨pr', rfl⟩ : ∃ l, ps = pr :: l := by
        cases ps with
        | nil => simp at hpr
        | cons a l => simp only [List.getElem?_cons_zero, Option.some.injEq] at hpr; subst hpr; exact ⟨l, rfl⟩
      simp [flat]
    have hset := K1.out.setKey (k := []) (v := .slice none 0 0) hpr hx0 (SOwn.nil _ _ _) (fun a _ => noShare_nil a)
    rw [Nat.zero_mul] at hset
    have hex := setCell_exc w6 gr 0 (.slice none 0 0)
    have hEn : Ext w (w6.setCell ⟨gr, 0, none⟩ (.slice none 0 0)) := hex.to_ext hE (fun k _ hk => by omega)
    have m1 := hty _ _ d3
    have m2 := hty _ _ d4
    have m3 := hty _ _ b2
    have m4 := hty _ _ b3
    have hgi : ∃ cs, w6.heap[gr]? = some (.cells cs 51 (0, 0)) := by
      rcases K1.out.row.2 with ⟨h0, _⟩ | ⟨g', cap, cur, e', _, hg', _⟩
      · cases h0
      · obtain rfl := sl_inj e'
        exact ⟨_, hg'⟩
    have hnu : ∀ cs, w6.heap[gr]? ≠ some (.cells cs 5 (0, 0)) := fun cs h => by
      rcases K1.out.row.2 with ⟨h0, _⟩ | ⟨g', cap, cur, e', _, hg', _⟩
      · cases h0
      · obtain rfl := sl_inj e'
        rw [h] at hg'
        injection hg' with hg'
        injection hg' with _ e
        exact absurd e (by decide)
    have hO1 : PgO (w.heap.size + 3) (w6.setCell ⟨gr, 0, none⟩ (.slice none 0 0)) (.agg #[.int .i64 p.kind, .int .i64 p.level, .slice iA3 n3 ic3, .slice dA3 p.data.length dc3, .int .i64 p.next]) { p with items := p.items.take 4 } := o3.setOther hgi (by
      intro e
      exact ra gr e rfl)
    have hO2 : PgO (w.heap.size + 3) (w6.setCell ⟨gr, 0, none⟩ (.slice none 0 0)) (.agg #[.int .i64 p.kind, .int .i64 p.level, .slice (some ⟨gr, 0, none⟩) n4 ic4, .slice dA4 p.data.length dc4, .int .i64 p.next]) { p with items := (p.items.drop 4).modify 0 (·.keyed []) } := by
      rw [hm0]
      refine ⟨some ⟨gr, 0, none⟩, ic4, dA4, dc4, _, by rw [HN4.out]; simp, hset, ?_, ?_⟩
      · exact K2.out.setT hgi 0 _
      · intro a ha
        rw [flat_set ps 0 pr _ hpr] at ha
        rcases List.mem_or_eq_of_mem_set ha with ha | rfl
        · exact K3.out a ha
        · exact (noShare_nil _).1
    have hOS : Own 5 (w.heap.size + 3) (w6.setCell ⟨gr, 0, none⟩ (.slice none 0 0)) sA sc x.key := hko.setT hgi 0 _
    have b2' := hex.blk b2 m3
    have b3' := hex.blk b3 m4
    have d1' := hex.blk d3 m1
    have d2' := hex.blk d4 m2
    clear hk2 hm0 hset hty hmem hnu z0' hpr hkv hko hx0 hx x0 x1 x3 x4 y0 y1 y3 y4 m1 m2 m3 m4 hex b2 b3 d3 d4 hE o3 o4
    go_wp2
    refine wp_cut (fun W => Ext w W ∧ W.heap[w.heap.size + 1]? = some (.cells #[.int .i64 0, .int .i64 0, .slice none 0 0, .slice none 0 0, .int .i64 0] 26) ∧ W.heap[w.heap.size + 1 + 1]? = some (.cells #[.int .i64 0, .int .i64 0, .slice none 0 0, .slice none 0 0, .int .i64 0] 26) ∧ W.heap[g3]? = some (.cells #[.int .i64 p.kind, .int .i64 p.level, .slice iA3 n3 ic3, .slice dA3 p.data.length dc3, .int .i64 p.next] 26) ∧ W.heap[g4]? = some (.cells #[.int .i64 p.kind, .int .i64 p.level, .slice (some ⟨gr, 0, none⟩) n4 ic4, .slice dA4 p.data.length dc4, .int .i64 p.next] 26) ∧
      PgO (w.heap.size + 3) W (.agg #[.int .i64 p.kind, .int .i64 p.level, .slice iA3 n3 ic3, .slice dA3 p.data.length dc3, .int .i64 p.next]) { p with items := p.items.take 4 } ∧ PgO (w.heap.size + 3) W (.agg #[.int .i64 p.kind, .int .i64 p.level, .slice (some ⟨gr, 0, none⟩) n4 ic4, .slice dA4 p.data.length dc4, .int .i64 p.next]) { p with items := (p.items.drop 4).modify 0 (·.keyed []) } ∧ Own 5 (w.heap.size + 3) W sA sc x.key) ⟨hEn, b2', b3', d1', d2', hO1, hO2, hOS⟩ ?_
    clear hEn b2' b3' d1' d2' hO1 hO2 hOS f0 z0
    rintro w5 ⟨hEw, b2, b3, d3, d4, o3, o4, os⟩
    have O1 := Lib.hid o3
    have O2 := Lib.hid o4
    have OS := Lib.hid os
    clear o3 o4 os
    refine wp_region_rg (Exc (fun k _ => k = w.heap.size + 1 ∨ k = w.heap.size + 1 + 1)) (rel_exc _) (fun w' => w'.heap[w.heap.size + 1]? = some (.cells #[.int .i64 0, .int .i64 0, .slice none 0 0, .slice none 0 0, .int .i64 0] 26) ∧ w'.heap[w.heap.size + 1 + 1]? = some (.cells #[.int .i64 0, .int .i64 0, .slice none 0 0, .slice none 0 0, .int .i64 0] 26)) [0, 1, 2, 3, 4, 5, 6] (fun _ => none) (fun i => match i with
      | 3 => some fun _ _ w' => w'.heap[w.heap.size + 1]? = some (.cells #[.int .i64 p.kind, .int .i64 p.level, .slice iA3 n3 ic3, .slice dA3 p.data.length dc3, .int .i64 p.next] 26) ∧ w'.heap[w.heap.size + 1 + 1]? = some (.cells #[.int .i64 0, .int .i64 0, .slice none 0 0, .slice none 0 0, .int .i64 0] 26)
      | 4 => some fun _ _ w' => w'.heap[w.heap.size + 1]? = some (.cells #[.int .i64 p.kind, .int .i64 p.level, .slice iA3 n3 ic3, .slice dA3 p.data.length dc3, .int .i64 p.next] 26) ∧ w'.heap[w.heap.size + 1 + 1]? = some (.cells #[.int .i64 p.kind, .int .i64 p.level, .slice (some ⟨gr, 0, none⟩) n4 ic4, .slice dA4 p.data.length dc4, .int .i64 p.next] 26)
      | _ => none) (fun _ => false) (by kernel_rfl) (by kernel_rfl) (fun _ _ h he => ⟨he.blk h.1, he.blk h.2⟩) ⟨b2, b3⟩ (fun W N hW hF0 hN => ?_)
    have hEW : Exc (fun k _ => k = w.heap.size + 1 ∨ k = w.heap.size + 1 + 1) w5 W := Exc.of_ext hW
    have D1 := Lib.hid d3
    have D2 := Lib.hid d4
    clear b2 b3 d3 d4
    have x0 : ∀ w', Exc (fun k _ => k = w.heap.size + 1 ∨ k = w.heap.size + 1 + 1) w5 w' → w'.cell? ⟨g3, 0, none⟩ = some (.int .i64 p.kind) := fun w' h => cell_of_row _ _ _ _ _ _ (h.blk D1.out (by omega))
    have x1 : ∀ w', Exc (fun k _ => k = w.heap.size + 1 ∨ k = w.heap.size + 1 + 1) w5 w' → w'.cell? ⟨g3, 1, none⟩ = some (.int .i64 p.level) := fun w' h => cell_of_row _ _ _ _ _ _ (h.blk D1.out (by omega))
    have x2 : ∀ w', Exc (fun k _ => k = w.heap.size + 1 ∨ k = w.heap.size + 1 + 1) w5 w' → w'.cell? ⟨g3, 2, none⟩ = some (.slice iA3 n3 ic3) := fun w' h => cell_of_row _ _ _ _ _ _ (h.blk D1.out (by omega))
    have x3 : ∀ w', Exc (fun k _ => k = w.heap.size + 1 ∨ k = w.heap.size + 1 + 1) w5 w' → w'.cell? ⟨g3, 3, none⟩ = some (.slice dA3 p.data.length dc3) := fun w' h => cell_of_row _ _ _ _ _ _ (h.blk D1.out (by omega))
    have x4 : ∀ w', Exc (fun k _ => k = w.heap.size + 1 ∨ k = w.heap.size + 1 + 1) w5 w' → w'.cell? ⟨g3, 4, none⟩ = some (.int .i64 p.next) := fun w' h => cell_of_row _ _ _ _ _ _ (h.blk D1.out (by omega))
    have y0 : ∀ w', Exc (fun k _ => k = w.heap.size + 1 ∨ k = w.heap.size + 1 + 1) w5 w' → w'.cell? ⟨g4, 0, none⟩ = some (.int .i64 p.kind) := fun w' h => cell_of_row _ _ _ _ _ _ (h.blk D2.out (by omega))
    have y1 : ∀ w', Exc (fun k _ => k = w.heap.size + 1 ∨ k = w.heap.size + 1 + 1) w5 w' → w'.cell? ⟨g4, 1, none⟩ = some (.int .i64 p.level) := fun w' h => cell_of_row _ _ _ _ _ _ (h.blk D2.out (by omega))
    have y2 : ∀ w', Exc (fun k _ => k = w.heap.size + 1 ∨ k = w.heap.size + 1 + 1) w5 w' → w'.cell? ⟨g4, 2, none⟩ = some (.slice (some ⟨gr, 0, none⟩) n4 ic4) := fun w' h => cell_of_row _ _ _ _ _ _ (h.blk D2.out (by omega))
    have y3 : ∀ w', Exc (fun k _ => k = w.heap.size + 1 ∨ k = w.heap.size + 1 + 1) w5 w' → w'.cell? ⟨g4, 3, none⟩ = some (.slice dA4 p.data.length dc4) := fun w' h => cell_of_row _ _ _ _ _ _ (h.blk D2.out (by omega))
    have y4 : ∀ w', Exc (fun k _ => k = w.heap.size + 1 ∨ k = w.heap.size + 1 + 1) w5 w' → w'.cell? ⟨g4, 4, none⟩ = some (.int .i64 p.next) := fun w' h => cell_of_row _ _ _ _ _ _ (h.blk D2.out (by omega))
    repeat (first | (apply wpR_one; (case ho => (simp only [List.getElem?_toArray, List.getElem?_cons_succ, List.getElem?_cons_zero]; try exact rfl)); (case hw => rfl); (case hl => rfl); (case hsp => rfl); (case he => rfl); (case hv => (intro w' hw'; (try (have hw2 := Ext.trans hEW hw')); (try (have hw3 := Exc.trans hEW hw')); (try (have hw4 := Exk.trans hEW hw')); (try (have hw5 := Mrk.trans hEW hw')); go_simp; exact rfl)); (case hw0 => (first | exact Below.refl _ _ | exact Exc.of_ext (Below.refl _ _) | exact Exk.of_ext (Below.refl _ _) | exact Mrk.of_ext (Below.refl _ _))); simp only [Act.put, List.setIfInBounds_toArray, List.set_cons_succ, List.set_cons_zero]) | (apply wpR_early; (case ho => (simp only [List.getElem?_toArray, List.getElem?_cons_succ, List.getElem?_cons_zero]; try exact rfl)); (case hw => rfl); (case hl => rfl); (case hsp => rfl); (case he => rfl); (case hv => (intro w' hw'; (try have hw2 := Ext.trans hEW hw'); go_simp; exact rfl)); simp only [Act.put, List.setIfInBounds_toArray, List.set_cons_succ, List.set_cons_zero]) | (apply wpR_pass; (case ho => (simp only [List.getElem?_toArray, List.getElem?_cons_succ, List.getElem?_cons_zero]; try exact rfl)); (case hw => rfl); (case hl => rfl); simp only [Act.put, List.setIfInBounds_toArray, List.set_cons_succ, List.set_cons_zero]))
    refine wpR_late (by ((simp only [List.getElem?_toArray, List.getElem?_cons_succ, List.getElem?_cons_zero]; try exact rfl))) _ rfl rfl (fun V v w' w2 h he => ⟨he.blk h.1, he.blk h.2⟩) (fun V V' h => rfl) (fun w' hw' hK hF => ?_) (fun v hv => ?_)
    · refine opAt_list rfl #[] (fun Q hQ => ?_)
      refine wpList_store_box rfl 26 _ _ rfl (w.heap.size + 1) _ rfl rfl 26 _ hF.1 (by kernel_rfl) rfl (by simp [Value.oneCell']) (fun w2 hb hg => ?_)
      exact hQ _ _ ⟨Exc.of_only hg (fun _ _ => .inl rfl), hb, blk_other hF.2 hg (by omega)⟩
    clear hv
    simp only [Act.put, List.setIfInBounds_toArray, List.set_cons_succ, List.set_cons_zero]
    refine wpR_late (by ((simp only [List.getElem?_toArray, List.getElem?_cons_succ, List.getElem?_cons_zero]; try exact rfl))) _ rfl rfl (fun V v w' w2 h he => ⟨he.blk h.1, he.blk h.2⟩) (fun V V' h => rfl) (fun w' hw' hK hF => ?_) (fun v hv => ?_)
    · refine opAt_list rfl #[] (fun Q hQ => ?_)
      refine wpList_store_box rfl 26 _ _ rfl (w.heap.size + 1 + 1) _ rfl rfl 26 _ hF.2 (by kernel_rfl) rfl (by simp [Value.oneCell']) (fun w2 hb hg => ?_)
      exact hQ _ _ ⟨Exc.of_only hg (fun _ _ => .inr rfl), blk_other hF.1 hg (by omega), hb⟩
    clear hv
    simp only [Act.put, List.setIfInBounds_toArray, List.set_cons_succ, List.set_cons_zero]
    repeat (first | (apply wpR_one; (case ho => (simp only [List.getElem?_toArray, List.getElem?_cons_succ, List.getElem?_cons_zero]; try exact rfl)); (case hw => rfl); (case hl => rfl); (case hsp => rfl); (case he => rfl); (case hv => (intro w' hw'; (try (have hw2 := Ext.trans hEW hw')); (try (have hw3 := Exc.trans hEW hw')); (try (have hw4 := Exk.trans hEW hw')); (try (have hw5 := Mrk.trans hEW hw')); go_simp; exact rfl)); (case hw0 => (first | exact Below.refl _ _ | exact Exc.of_ext (Below.refl _ _) | exact Exk.of_ext (Below.refl _ _) | exact Mrk.of_ext (Below.refl _ _))); simp only [Act.put, List.setIfInBounds_toArray, List.set_cons_succ, List.set_cons_zero]) | (apply wpR_early; (case ho => (simp only [List.getElem?_toArray, List.getElem?_cons_succ, List.getElem?_cons_zero]; try exact rfl)); (case hw => rfl); (case hl => rfl); (case hsp => rfl); (case he => rfl); (case hv => (intro w' hw'; (try have hw2 := Ext.trans hEW hw'); go_simp; exact rfl)); simp only [Act.put, List.setIfInBounds_toArray, List.set_cons_succ, List.set_cons_zero]) | (apply wpR_pass; (case ho => (simp only [List.getElem?_toArray, List.getElem?_cons_succ, List.getElem?_cons_zero]; try exact rfl)); (case hw => rfl); (case hl => rfl); simp only [Act.put, List.setIfInBounds_toArray, List.set_cons_succ, List.set_cons_zero]))
    apply wpR_nil
    apply hN
    intro w9 hE9 hK hF
    obtain ⟨r1, r2⟩ := hF
    have hx9 := hEW.trans hE9
    have hE' : Ext w w9 := hx9.to_ext hEw (fun k _ hk => by omega)
    have R1 := Lib.hid (hx9.pgo4 O1.out (fun k _ hk => by omega))
    have R2 := Lib.hid (hx9.pgo4 O2.out (fun k _ hk => by omega))
    have R3 := Lib.hid (ownsRow_exc OS.out hx9 (fun k cs h1 h2 => by omega))
    clear hK hN x0 x1 x2 x3 x4 y0 y1 y2 y3 y4 hEW hE9 hx9 hW hF0
    go_wp2
    refine bodyPost_ret (results_rrtt rfl _ _ _ _ _ _ _ _ _ _ _ _ rfl r1 Try.underlying26 rfl (by kernel_rfl) rfl r2 Try.underlying26 rfl (by kernel_rfl)) rfl ⟨_, _, _, _, by rw [HS0.out, HQ.out]; rfl, by rw [HS0.out, HQ.out]; exact R1.out.mono (by omega), ?_, ?_, hE'⟩
    · rw [HS0.out, HQ.out]; exact R2.out.mono (by omega)
    · rw [HS0.out, HQ.out]; exact ownsRow_mono R3.out (by omega)
  · have c1 : (p.kind == 2) = false := by simpa using hk2
    obtain ⟨y, hy⟩ : ∃ y, p.items[4 - 1]? = some y := ⟨_, List.getElem?_eq_getElem (by omega)⟩
    have HQ0 := Lib.hid (show partB p p p.items 4 = (betwB y.key x.key).map fun s => ({ p with items := p.items.take 4 }, { p with items := p.items.drop 4 }, s) by
      unfold partB
      rw [if_neg hk2, List.getD_eq_getElem?_getD, List.getD_eq_getElem?_getD, hx, hy]
      rfl)
    obtain ⟨b, o, ebo, hcx⟩ := hr.rd (by omega)
    injection ebo with ebo
    injection ebo with ebo1 ebo2
    subst ebo1 ebo2
    obtain ⟨lA, lc, _, _, z0, _, _, _, zk, _⟩ := hcx (4 - 1) y hy
    obtain ⟨b', o', hA', hcx'⟩ := hT.rd (by rw [HD.out]; omega)
    injection hA' with hA'
    injection hA' with hA1 hA2
    subst hA1 hA2
    obtain ⟨mA, mc, _, _, z1, _, _, _, xk, _⟩ := hcx' 0 x hx0
    rw [Nat.zero_mul, Nat.add_zero] at z1
    have ez0 : ∀ w', Ext w4 w' → w'.cell? ⟨ib, io + 12, none⟩ = some (.slice lA y.key.length lc) := fun w' h => (hE.trans h).cell z0
    have ez1 : ∀ w', Ext w4 w' → w'.cell? ⟨ib, io + 16, none⟩ = some (.slice mA x.key.length mc) := fun w' h => (hE.trans h).cell z1
    have i3 : (0 : Int) < ((p.items.length - 4 : Nat) : Int) := by omega
    have i4 : 0 < p.items.length - 4 := by omega
    have i5 : 4 < p.items.length := h2
    have ea2 : ∀ w', Ext w4 w' → w'.cell? ⟨w.heap.size, 2, none⟩ = some (.slice (some ⟨ib, io, none⟩) p.items.length ic) := fun w' h => cell_of_row _ _ _ _ _ _ (h.blk B0.out)
    have i7 : (3 : Int) < (p.items.length : Int) := by omega
    have i8 : (4 : Int) < (p.items.length : Int) := by omega
    have i9 : 3 < p.items.length := by omega
    have h44 : w.heap.size + 3 ≤ w4.heap.size := (Array.getElem?_eq_some_iff.1 b3).1
    have D1 := Lib.hid d3
    have D2 := Lib.hid d4
    have B2 := Lib.hid b2
    have B3 := Lib.hid b3
    have O1 := Lib.hid o3
    have O2 := Lib.hid o4
    clear hk2 hx hx0 hy hcx hcx' z0 z1 x0 x1 x2 x3 x4 y0 y1 y2 y3 y4 d3 d4 b2 b3 o3 o4
    go_wp2
    refine wp_region_rg Ext rel_ext (fun _ => True) [0, 1, 2, 3, 4, 5, 6, 7, 8, 9, 10, 11, 12, 13, 14, 15] (fun i => match i with
      | 10 => some fun _ => BtwIn w4.heap.size y.key x.key
      | _ => none) (fun _ => none) (fun _ => false) (by kernel_rfl) (by kernel_rfl) (fun _ _ _ _ => trivial) trivial (fun W N hW _ hN => ?_)
    have hEW : Ext w4 W := hW
    repeat (first | (apply wpR_one; (case ho => (simp only [List.getElem?_toArray, List.getElem?_cons_succ, List.getElem?_cons_zero]; try exact rfl)); (case hw => rfl); (case hl => rfl); (case hsp => rfl); (case he => rfl); (case hv => (intro w' hw'; (try (have hw2 := Ext.trans hEW hw')); (try (have hw3 := Exc.trans hEW hw')); (try (have hw4 := Exk.trans hEW hw')); (try (have hw5 := Mrk.trans hEW hw')); go_simp; exact rfl)); (case hw0 => (first | exact Below.refl _ _ | exact Exc.of_ext (Below.refl _ _) | exact Exk.of_ext (Below.refl _ _) | exact Mrk.of_ext (Below.refl _ _))); simp only [Act.put, List.setIfInBounds_toArray, List.set_cons_succ, List.set_cons_zero]) | (apply wpR_early; (case ho => (simp only [List.getElem?_toArray, List.getElem?_cons_succ, List.getElem?_cons_zero]; try exact rfl)); (case hw => rfl); (case hl => rfl); (case hsp => rfl); (case he => rfl); (case hv => (intro w' hw'; (try have hw2 := Ext.trans hEW hw'); go_simp; exact rfl)); simp only [Act.put, List.setIfInBounds_toArray, List.set_cons_succ, List.set_cons_zero]) | (apply wpR_pass; (case ho => (simp only [List.getElem?_toArray, List.getElem?_cons_succ, List.getElem?_cons_zero]; try exact rfl)); (case hw => rfl); (case hl => rfl); simp only [Act.put, List.setIfInBounds_toArray, List.set_cons_succ, List.set_cons_zero]))
    refine wpR_new (by ((simp only [List.getElem?_toArray, List.getElem?_cons_succ, List.getElem?_cons_zero]; try exact rfl))) _ rfl rfl rfl (fun V v => BtwIn.lasts _ _ _ _) (fun V V' h => rfl) (fun w' hw' hK => ?_) (fun v hv => ?_)
    · have HX := Lib.hid (hE.trans (hEW.trans hw'))
      have HY := Lib.hid (hEW.trans hw').size
      clear hK
      unfold opAt; go_simp; refine upAt_enter ?_
      refine (rbetween_any (zk.ext HX.out) (xk.ext HX.out) rfl rfl).mono ?_
      rintro e w2 ⟨A6, c6, rfl, ho, hE6⟩
      exact ⟨_, rfl, hE6, A6, c6, _, _, rfl, Lib.hid rfl, Lib.hid rfl, ho.mono HY.out⟩
    obtain ⟨A6, c6, n6, z6, HN6, HZ6, rfl⟩ : ∃ A c n z, Hid (n = (betwK y.key x.key).length) ∧ Hid (z = (betwB y.key x.key).isSome) ∧ v = .tuple #[.slice A n c, .bool z] := by
      obtain ⟨_, _, _, A, c, n, z, h, h1, h2, _⟩ := hv
      exact ⟨A, c, n, z, h1, h2, h⟩
    clear hv
    simp only [Act.put, List.setIfInBounds_toArray, List.set_cons_succ, List.set_cons_zero]
    repeat (first | (apply wpR_one; (case ho => (simp only [List.getElem?_toArray, List.getElem?_cons_succ, List.getElem?_cons_zero]; try exact rfl)); (case hw => rfl); (case hl => rfl); (case hsp => rfl); (case he => rfl); (case hv => (intro w' hw'; (try (have hw2 := Ext.trans hEW hw')); (try (have hw3 := Exc.trans hEW hw')); (try (have hw4 := Exk.trans hEW hw')); (try (have hw5 := Mrk.trans hEW hw')); go_simp; exact rfl)); (case hw0 => (first | exact Below.refl _ _ | exact Exc.of_ext (Below.refl _ _) | exact Exk.of_ext (Below.refl _ _) | exact Mrk.of_ext (Below.refl _ _))); simp only [Act.put, List.setIfInBounds_toArray, List.set_cons_succ, List.set_cons_zero]) | (apply wpR_early; (case ho => (simp only [List.getElem?_toArray, List.getElem?_cons_succ, List.getElem?_cons_zero]; try exact rfl)); (case hw => rfl); (case hl => rfl); (case hsp => rfl); (case he => rfl); (case hv => (intro w' hw'; (try have hw2 := Ext.trans hEW hw'); go_simp; exact rfl)); simp only [Act.put, List.setIfInBounds_toArray, List.set_cons_succ, List.set_cons_zero]) | (apply wpR_pass; (case ho => (simp only [List.getElem?_toArray, List.getElem?_cons_succ, List.getElem?_cons_zero]; try exact rfl)); (case hw => rfl); (case hl => rfl); simp only [Act.put, List.setIfInBounds_toArray, List.set_cons_succ, List.set_cons_zero]))
    apply wpR_nil
    apply hN
    intro w5 hE' hK _
    have hk := (hK 10).2
    have OS : Hid (Own 5 (w.heap.size + 3) w5 A6 c6 (betwK y.key x.key)) := by
      obtain ⟨A7, c7, n7, z7, e, _, _, ho⟩ := hk
      have e' : Value.tuple #[.slice A6 n6 c6, .bool z6] = Value.tuple #[.slice A7 n7 c7, .bool z7] := e
      simp only [Value.tuple.injEq, Array.mk.injEq, List.cons.injEq, Value.slice.injEq] at e'
      obtain ⟨⟨rfl, _, rfl⟩, _⟩ := e'
      exact Lib.hid (ho.mono h44)
    have hE5 := hEW.trans hE'
    have hEw := hE.trans hE5
    have b2 := hE5.blk B2.out
    have b3 := hE5.blk B3.out
    have d3 := hE5.blk D1.out
    have d4 := hE5.blk D2.out
    have o3 := O1.out.ext hE5
    have o4 := O2.out.ext hE5
    clear hK hN hk ez0 ez1 hEW hE' hW O1 O2 B2 B3 D1 D2
    have O1 := Lib.hid o3
    have O2 := Lib.hid o4
    clear o3 o4
    cases z6
    · have HQ := Lib.hid (show partB p p p.items 4 = none by
        rw [HQ0.out]
        have := HZ6.out
        cases h : betwB y.key x.key with
        | none => rfl
        | some s => rw [h] at this; cases this)
      go_wp2_with (first | (refine wpList_store_box rfl 26 (.tmp 2) _ rfl (w.heap.size + 1) _ rfl rfl 26 _ b2 (by kernel_rfl) rfl (by simp [Value.oneCell']) (fun w6 hb hg => ?_); have b3' := blk_other b3 hg (by omega); have hE6 := ext_only hEw hg (by omega); clear b3) | (refine wpList_store_box rfl 26 (.tmp 3) _ rfl (w.heap.size + 1 + 1) _ rfl rfl 26 _ b3' (by kernel_rfl) rfl (by simp [Value.oneCell']) (fun w7 hb' hg' => ?_)))
      refine bodyPost_ret (results_rrtt rfl _ _ _ _ _ _ _ _ _ _ _ _ rfl (blk_other hb hg' (by omega)) Try.underlying26 rfl (by kernel_rfl) rfl hb' Try.underlying26 rfl (by kernel_rfl)) rfl ⟨_, _, none, 0, by rw [HS0.out, HQ.out]; rfl, by rw [HS0.out, HQ.out]; exact PgO.zero _ _, ?_, ?_, ext_only hE6 hg' (by omega)⟩
      · rw [HS0.out, HQ.out]; exact PgO.zero _ _
      · rw [HS0.out, HQ.out]; exact ⟨rfl, .inl ⟨rfl, rfl⟩⟩
    · have HQ := Lib.hid (show partB p p p.items 4 = some ({ p with items := p.items.take 4 }, { p with items := p.items.drop 4 }, betwK y.key x.key) by
        rw [HQ0.out]
        have := HZ6.out
        cases h : betwB y.key x.key with
        | none => rw [h] at this; cases this
        | some s => rw [betwK_some h]; rfl)
      go_wp2
      refine wp_region_rg (Exc (fun k _ => k = w.heap.size + 1 ∨ k = w.heap.size + 1 + 1)) (rel_exc _) (fun w' => w'.heap[w.heap.size + 1]? = some (.cells #[.int .i64 0, .int .i64 0, .slice none 0 0, .slice none 0 0, .int .i64 0] 26) ∧ w'.heap[w.heap.size + 1 + 1]? = some (.cells #[.int .i64 0, .int .i64 0, .slice none 0 0, .slice none 0 0, .int .i64 0] 26)) [0, 1, 2, 3, 4, 5, 6] (fun _ => none) (fun i => match i with
        | 3 => some fun _ _ w' => w'.heap[w.heap.size + 1]? = some (.cells #[.int .i64 p.kind, .int .i64 p.level, .slice iA3 n3 ic3, .slice dA3 p.data.length dc3, .int .i64 p.next] 26) ∧ w'.heap[w.heap.size + 1 + 1]? = some (.cells #[.int .i64 0, .int .i64 0, .slice none 0 0, .slice none 0 0, .int .i64 0] 26)
        | 4 => some fun _ _ w' => w'.heap[w.heap.size + 1]? = some (.cells #[.int .i64 p.kind, .int .i64 p.level, .slice iA3 n3 ic3, .slice dA3 p.data.length dc3, .int .i64 p.next] 26) ∧ w'.heap[w.heap.size + 1 + 1]? = some (.cells #[.int .i64 p.kind, .int .i64 p.level, .slice iA4 n4 ic4, .slice dA4 p.data.length dc4, .int .i64 p.next] 26)
        | _ => none) (fun _ => false) (by kernel_rfl) (by kernel_rfl) (fun _ _ h he => ⟨he.blk h.1, he.blk h.2⟩) ⟨b2, b3⟩ (fun W N hW hF0 hN => ?_)
      have hEW : Exc (fun k _ => k = w.heap.size + 1 ∨ k = w.heap.size + 1 + 1) w5 W := Exc.of_ext hW
      have D1 := Lib.hid d3
      have D2 := Lib.hid d4
      clear b2 b3 d3 d4
      have x0 : ∀ w', Exc (fun k _ => k = w.heap.size + 1 ∨ k = w.heap.size + 1 + 1) w5 w' → w'.cell? ⟨g3, 0, none⟩ = some (.int .i64 p.kind) := fun w' h => cell_of_row _ _ _ _ _ _ (h.blk D1.out (by omega))
      have x1 : ∀ w', Exc (fun k _ => k = w.heap.size + 1 ∨ k = w.heap.size + 1 + 1) w5 w' → w'.cell? ⟨g3, 1, none⟩ = some (.int .i64 p.level) := fun w' h => cell_of_row _ _ _ _ _ _ (h.blk D1.out (by omega))
      have x2 : ∀ w', Exc (fun k _ => k = w.heap.size + 1 ∨ k = w.heap.size + 1 + 1) w5 w' → w'.cell? ⟨g3, 2, none⟩ = some (.slice iA3 n3 ic3) := fun w' h => cell_of_row _ _ _ _ _ _ (h.blk D1.out (by omega))
      have x3 : ∀ w', Exc (fun k _ => k = w.heap.size + 1 ∨ k = w.heap.size + 1 + 1) w5 w' → w'.cell? ⟨g3, 3, none⟩ = some (.slice dA3 p.data.length dc3) := fun w' h => cell_of_row _ _ _ _ _ _ (h.blk D1.out (by omega))
      have x4 : ∀ w', Exc (fun k _ => k = w.heap.size + 1 ∨ k = w.heap.size + 1 + 1) w5 w' → w'.cell? ⟨g3, 4, none⟩ = some (.int .i64 p.next) := fun w' h => cell_of_row _ _ _ _ _ _ (h.blk D1.out (by omega))
      have y0 : ∀ w', Exc (fun k _ => k = w.heap.size + 1 ∨ k = w.heap.size + 1 + 1) w5 w' → w'.cell? ⟨g4, 0, none⟩ = some (.int .i64 p.kind) := fun w' h => cell_of_row _ _ _ _ _ _ (h.blk D2.out (by omega))
      have y1 : ∀ w', Exc (fun k _ => k = w.heap.size + 1 ∨ k = w.heap.size + 1 + 1) w5 w' → w'.cell? ⟨g4, 1, none⟩ = some (.int .i64 p.level) := fun w' h => cell_of_row _ _ _ _ _ _ (h.blk D2.out (by omega))
      have y2 : ∀ w', Exc (fun k _ => k = w.heap.size + 1 ∨ k = w.heap.size + 1 + 1) w5 w' → w'.cell? ⟨g4, 2, none⟩ = some (.slice iA4 n4 ic4) := fun w' h => cell_of_row _ _ _ _ _ _ (h.blk D2.out (by omega))
      have y3 : ∀ w', Exc (fun k _ => k = w.heap.size + 1 ∨ k = w.heap.size + 1 + 1) w5 w' → w'.cell? ⟨g4, 3, none⟩ = some (.slice dA4 p.data.length dc4) := fun w' h => cell_of_row _ _ _ _ _ _ (h.blk D2.out (by omega))
      have y4 : ∀ w', Exc (fun k _ => k = w.heap.size + 1 ∨ k = w.heap.size + 1 + 1) w5 w' → w'.cell? ⟨g4, 4, none⟩ = some (.int .i64 p.next) := fun w' h => cell_of_row _ _ _ _ _ _ (h.blk D2.out (by omega))
      repeat (first | (apply wpR_one; (case ho => (simp only [List.getElem?_toArray, List.getElem?_cons_succ, List.getElem?_cons_zero]; try exact rfl)); (case hw => rfl); (case hl => rfl); (case hsp => rfl); (case he => rfl); (case hv => (intro w' hw'; (try (have hw2 := Ext.trans hEW hw')); (try (have hw3 := Exc.trans hEW hw')); (try (have hw4 := Exk.trans hEW hw')); (try (have hw5 := Mrk.trans hEW hw')); go_simp; exact rfl)); (case hw0 => (first | exact Below.refl _ _ | exact Exc.of_ext (Below.refl _ _) | exact Exk.of_ext (Below.refl _ _) | exact Mrk.of_ext (Below.refl _ _))); simp only [Act.put, List.setIfInBounds_toArray, List.set_cons_succ, List.set_cons_zero]) | (apply wpR_early; (case ho => (simp only [List.getElem?_toArray, List.getElem?_cons_succ, List.getElem?_cons_zero]; try exact rfl)); (case hw => rfl); (case hl => rfl); (case hsp => rfl); (case he => rfl); (case hv => (intro w' hw'; (try have hw2 := Ext.trans hEW hw'); go_simp; exact rfl)); simp only [Act.put, List.setIfInBounds_toArray, List.set_cons_succ, List.set_cons_zero]) | (apply wpR_pass; (case ho => (simp only [List.getElem?_toArray, List.getElem?_cons_succ, List.getElem?_cons_zero]; try exact rfl)); (case hw => rfl); (case hl => rfl); simp only [Act.put, List.setIfInBounds_toArray, List.set_cons_succ, List.set_cons_zero]))
      refine wpR_late (by ((simp only [List.getElem?_toArray, List.getElem?_cons_succ, List.getElem?_cons_zero]; try exact rfl))) _ rfl rfl (fun V v w' w2 h he => ⟨he.blk h.1, he.blk h.2⟩) (fun V V' h => rfl) (fun w' hw' hK hF => ?_) (fun v hv => ?_)
      · refine opAt_list rfl #[] (fun Q hQ => ?_)
        refine wpList_store_box rfl 26 _ _ rfl (w.heap.size + 1) _ rfl rfl 26 _ hF.1 (by kernel_rfl) rfl (by simp [Value.oneCell']) (fun w2 hb hg => ?_)
        exact hQ _ _ ⟨Exc.of_only hg (fun _ _ => .inl rfl), hb, blk_other hF.2 hg (by omega)⟩
      clear hv
      simp only [Act.put, List.setIfInBounds_toArray, List.set_cons_succ, List.set_cons_zero]
      refine wpR_late (by ((simp only [List.getElem?_toArray, List.getElem?_cons_succ, List.getElem?_cons_zero]; try exact rfl))) _ rfl rfl (fun V v w' w2 h he => ⟨he.blk h.1, he.blk h.2⟩) (fun V V' h => rfl) (fun w' hw' hK hF => ?_) (fun v hv => ?_)
      · refine opAt_list rfl #[] (fun Q hQ => ?_)
        refine wpList_store_box rfl 26 _ _ rfl (w.heap.size + 1 + 1) _ rfl rfl 26 _ hF.2 (by kernel_rfl) rfl (by simp [Value.oneCell']) (fun w2 hb hg => ?_)
        exact hQ _ _ ⟨Exc.of_only hg (fun _ _ => .inr rfl), blk_other hF.1 hg (by omega), hb⟩
      clear hv
      simp only [Act.put, List.setIfInBounds_toArray, List.set_cons_succ, List.set_cons_zero]
      repeat (first | (apply wpR_one; (case ho => (simp only [List.getElem?_toArray, List.getElem?_cons_succ, List.getElem?_cons_zero]; try exact rfl)); (case hw => rfl); (case hl => rfl); (case hsp => rfl); (case he => rfl); (case hv => (intro w' hw'; (try (have hw2 := Ext.trans hEW hw')); (try (have hw3 := Exc.trans hEW hw')); (try (have hw4 := Exk.trans hEW hw')); (try (have hw5 := Mrk.trans hEW hw')); go_simp; exact rfl)); (case hw0 => (first | exact Below.refl _ _ | exact Exc.of_ext (Below.refl _ _) | exact Exk.of_ext (Below.refl _ _) | exact Mrk.of_ext (Below.refl _ _))); simp only [Act.put, List.setIfInBounds_toArray, List.set_cons_succ, List.set_cons_zero]) | (apply wpR_early; (case ho => (simp only [List.getElem?_toArray, List.getElem?_cons_succ, List.getElem?_cons_zero]; try exact rfl)); (case hw => rfl); (case hl => rfl); (case hsp => rfl); (case he => rfl); (case hv => (intro w' hw'; (try have hw2 := Ext.trans hEW hw'); go_simp; exact rfl)); simp only [Act.put, List.setIfInBounds_toArray, List.set_cons_succ, List.set_cons_zero]) | (apply wpR_pass; (case ho => (simp only [List.getElem?_toArray, List.getElem?_cons_succ, List.getElem?_cons_zero]; try exact rfl)); (case hw => rfl); (case hl => rfl); simp only [Act.put, List.setIfInBounds_toArray, List.set_cons_succ, List.set_cons_zero]))
      apply wpR_nil
      apply hN
      intro w9 hE9 hK hF
      obtain ⟨r1, r2⟩ := hF
      have hx9 := hEW.trans hE9
      have hE' : Ext w w9 := hx9.to_ext hEw (fun k _ hk => by omega)
      have R1 := Lib.hid (hx9.pgo4 O1.out (fun k _ hk => by omega))
      have R2 := Lib.hid (hx9.pgo4 O2.out (fun k _ hk => by omega))
      have R3 := Lib.hid (ownsRow_exc OS.out hx9 (fun k cs h1 h2 => by omega))
      clear hK hN x0 x1 x2 x3 x4 y0 y1 y2 y3 y4 hEW hE9 hx9 hW hF0
      go_wp2
      refine bodyPost_ret (results_rrtt rfl _ _ _ _ _ _ _ _ _ _ _ _ rfl r1 Try.underlying26 rfl (by kernel_rfl) rfl r2 Try.underlying26 rfl (by kernel_rfl)) rfl ⟨_, _, _, _, by rw [HS0.out, HQ.out, HN6.out]; rfl, by rw [HS0.out, HQ.out]; exact R1.out.mono (by omega), ?_, ?_, hE'⟩
      · rw [HS0.out, HQ.out]; exact R2.out.mono (by omega)
      · rw [HS0.out, HQ.out]; exact ownsRow_mono R3.out (by omega)

end Go.Proofs.Ytjjbckdiojleeaa
