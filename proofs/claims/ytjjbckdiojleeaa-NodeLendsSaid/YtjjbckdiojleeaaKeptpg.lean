/- Contract of KeptPage over a page that SparePage made. No condition but that what comes in lies in memory. -/
import Derived.Test.YtjjbckdiojleeaaSparepg
namespace Go.Proofs.Ytjjbckdiojleeaa
set_option linter.unusedVariables false
open Go.RowKit Go.Proofs
theorem eqPg_self (p : Pg) : eqPg p p = true := by simp [eqPg]
theorem mark_cell {w : World} {g : Nat} {ps : List (Value × Value)} {l : List It} {t : TypeId} (h : w.heap[g]? = some (.cells (rowCells ps l ++ markIts l.length 2).toArray t (0, 0))) (hl : ps.length = l.length) {i j : Nat} (h1 : l.length ≤ i) (h2 : i < l.length + 2) (hj : j < 4) :
    w.cell? ⟨g, i * 4 + j, none⟩ = (markIt i)[j]? := by
  rw [cell_of_row w g _ _ _ _ h]
  simp only [List.getElem?_toArray]
  have hr := length_rowCells ps l hl
  rw [List.getElem?_append_right (by omega)]
  have : i = l.length ∨ i = l.length + 1 := by omega
  rcases this with rfl | rfl
  · rw [show l.length * 4 + j - (rowCells ps l).length = j by omega]
    simp only [markIts, List.nil_append, Nat.add_zero]
    rw [List.getElem?_append_left (by simp [markIt]; omega)]
  · rw [show (l.length + 1) * 4 + j - (rowCells ps l).length = 4 + j by omega]
    simp only [markIts, List.nil_append, Nat.add_zero]
    rw [List.getElem?_append_right (by simp [markIt])]
    simp [markIt]
set_option maxRecDepth 100000 in
set_option maxHeartbeats 4000000 in
theorem keptPage_any {v u : Value} {p : Pg} {w : World} (hv : SpPg w v p) (hu : PgV w u p) :
    Calls Try.prog 20 #[v, u] w fun e w' => e = .returned (.bool true) ∧ Ext w w' := by
  have hpv := hv.pgv hu.small
  obtain ⟨g, ps, gd, rfl, hblk, hS, hds⟩ := hv.ex
  obtain ⟨jA, jc, cA, cc, rfl, hj, hcd⟩ := hu.ex
  have hjl := hj.len
  have hT := Lib.hid (eqPg_self p)
  go_enter Try.func20, Try.ntmps20
  go_wp2_with fail
  refine (eqPage_any (hpv.ext ((ext_alloc _ _).trans (ext_alloc _ _))) (hu.ext ((ext_alloc _ _).trans (ext_alloc _ _)))).mono ?_
  rintro e w1 ⟨rfl, hE⟩
  rw [hT.out]
  have b1 := hE.blk (heap_alloc2_old w (.cells #[.int .i64 p.kind, .int .i64 p.level, .slice (some ⟨g, 0, none⟩) p.items.length (p.items.length + 2), .slice (some ⟨gd, 0, none⟩) p.data.length (p.data.length + 64), .int .i64 p.next] 26) (.cells #[.int .i64 p.kind, .int .i64 p.level, .slice jA p.items.length jc, .slice cA p.data.length cc, .int .i64 p.next] 26))
  have b2 := hE.blk (heap_alloc2_new w (.cells #[.int .i64 p.kind, .int .i64 p.level, .slice (some ⟨g, 0, none⟩) p.items.length (p.items.length + 2), .slice (some ⟨gd, 0, none⟩) p.data.length (p.data.length + 64), .int .i64 p.next] 26) (.cells #[.int .i64 p.kind, .int .i64 p.level, .slice jA p.items.length jc, .slice cA p.data.length cc, .int .i64 p.next] 26))
  have hE1 := ((ext_alloc w (.cells #[.int .i64 p.kind, .int .i64 p.level, .slice (some ⟨g, 0, none⟩) p.items.length (p.items.length + 2), .slice (some ⟨gd, 0, none⟩) p.data.length (p.data.length + 64), .int .i64 p.next] 26)).trans (ext_alloc _ (.cells #[.int .i64 p.kind, .int .i64 p.level, .slice jA p.items.length jc, .slice cA p.data.length cc, .int .i64 p.next] 26))).trans hE
  have ea2 : ∀ w', Ext w1 w' → w'.cell? ⟨w.heap.size, 2, none⟩ = some (.slice (some ⟨g, 0, none⟩) p.items.length (p.items.length + 2)) := fun w' h => cell_of_row _ _ _ _ _ _ (h.blk b1)
  have ea3 : ∀ w', Ext w1 w' → w'.cell? ⟨w.heap.size, 3, none⟩ = some (.slice (some ⟨gd, 0, none⟩) p.data.length (p.data.length + 64)) := fun w' h => cell_of_row _ _ _ _ _ _ (h.blk b1)
  have eb2 : ∀ w', Ext w1 w' → w'.cell? ⟨w.heap.size + 1, 2, none⟩ = some (.slice jA p.items.length jc) := fun w' h => cell_of_row _ _ _ _ _ _ (h.blk b2)
  have eb3 : ∀ w', Ext w1 w' → w'.cell? ⟨w.heap.size + 1, 3, none⟩ = some (.slice cA p.data.length cc) := fun w' h => cell_of_row _ _ _ _ _ _ (h.blk b2)
  clear hE b1 b2 hu hpv
  have hw1 : Ext w1 w1 := Below.refl _ _
  go_wp2_with fail
  refine (kept_any (Blk.ext hds hE1) (hcd.ext hE1)).mono ?_
  rintro e w2 ⟨rfl, hE2⟩
  clear hw1 hT
  go_wp2
  go_loopw [6] (fun i wr => ∃ k : Nat, k ≤ p.items.length + 2 ∧ i = .int .i64 k ∧ Ext w1 wr) (fun i _ => p.items.length + 2 - (intOf i).toNat)
  case atStart => exact ⟨0, Nat.zero_le _, rfl, hE2⟩
  case round =>
    clear hE2
    obtain ⟨k, hk, rfl, hEr⟩ := hrel
    have hSl := Lib.hid hS.length
    have hEw := hE1.trans hEr
    by_cases h1 : k < p.items.length
    · obtain ⟨x, hx⟩ : ∃ x, p.items[k]? = some x := ⟨_, List.getElem?_eq_getElem h1⟩
      obtain ⟨q, hq, ⟨gk, hk1, _, hk2⟩, ⟨gv, hv1, _, hv2⟩⟩ := hS.at_ hx
      have y0 := rowCells_cell (hE1.blk hblk) (j := 0) hq hx hSl.out (by omega)
      have y1 := rowCells_cell (hE1.blk hblk) (j := 1) hq hx hSl.out (by omega)
      simp only [itCells, hk1, hv1, List.getElem?_cons_zero, List.getElem?_cons_succ, Nat.add_zero] at y0 y1
      obtain ⟨b', o', rfl, hcy⟩ := hj.rd (by omega)
      obtain ⟨lA, lc, uA, uc, z0, z1, _, _, zk, zv⟩ := (hcy k x hx).ext hE1
      have ey0 : ∀ w', Ext w1 w' → _ := fun w' h => h.cell y0
      have ey1 : ∀ w', Ext w1 w' → _ := fun w' h => h.cell y1
      have ez0 : ∀ w', Ext w1 w' → _ := fun w' h => h.cell z0
      have ez1 : ∀ w', Ext w1 w' → _ := fun w' h => h.cell z1
      clear y0 y1 z0 z1 hx hq hcy hk1 hv1
      have hk2' := Blk.ext hk2 hE1
      have hv2' := Blk.ext hv2 hE1
      go_wp2
      refine wp_region_rg Ext rel_ext (fun _ => True) [0, 1, 2, 3, 4, 5, 6, 7, 8, 9, 10, 11, 12, 13, 14, 15, 16, 17, 18, 19, 20, 21, 22, 23, 24, 25, 26, 27, 28, 29] (fun i => match i with
        | 12 => some fun _ v _ => v = .bool true
        | 27 => some fun _ v _ => v = .bool true
        | _ => none) (fun _ => none) (fun _ => false) (by kernel_rfl) (by kernel_rfl) (fun _ _ _ _ => trivial) trivial (fun W N hW _ hN => ?_)
      have hEW := hEr.trans hW
      repeat (first | (apply wpR_one; (case ho => (simp only [List.getElem?_toArray, List.getElem?_cons_succ, List.getElem?_cons_zero]; try exact rfl)); (case hw => rfl); (case hl => rfl); (case hsp => rfl); (case he => rfl); (case hv => (intro w' hw'; (try (have hw2 := Ext.trans hEW hw')); (try (have hw3 := Exc.trans hEW hw')); (try (have hw4 := Exk.trans hEW hw')); (try (have hw5 := Mrk.trans hEW hw')); go_simp; exact rfl)); (case hw0 => (first | exact Below.refl _ _ | exact Exc.of_ext (Below.refl _ _) | exact Exk.of_ext (Below.refl _ _) | exact Mrk.of_ext (Below.refl _ _))); simp only [Act.put, List.setIfInBounds_toArray, List.set_cons_succ, List.set_cons_zero]) | (apply wpR_early; (case ho => (simp only [List.getElem?_toArray, List.getElem?_cons_succ, List.getElem?_cons_zero]; try exact rfl)); (case hw => rfl); (case hl => rfl); (case hsp => rfl); (case he => rfl); (case hv => (intro w' hw'; (try have hw2 := Ext.trans hEW hw'); go_simp; exact rfl)); simp only [Act.put, List.setIfInBounds_toArray, List.set_cons_succ, List.set_cons_zero]) | (apply wpR_pass; (case ho => (simp only [List.getElem?_toArray, List.getElem?_cons_succ, List.getElem?_cons_zero]; try exact rfl)); (case hw => rfl); (case hl => rfl); simp only [Act.put, List.setIfInBounds_toArray, List.set_cons_succ, List.set_cons_zero]))
      refine wpR_new (by ((simp only [List.getElem?_toArray, List.getElem?_cons_succ, List.getElem?_cons_zero]; try exact rfl))) _ rfl rfl rfl (fun V v => Lasts.pure) (fun V V' h => rfl) (fun w' hw' hK => ?_) (fun v hv => ?_)
      · unfold opAt; go_simp; refine upAt_enter ?_
        refine (kept_any (Blk.ext hk2' (hEW.trans hw')) (zk.ext (hEW.trans hw'))).mono ?_
        rintro e w2 ⟨rfl, hE2⟩
        exact ⟨_, rfl, hE2, rfl⟩
      obtain ⟨_, _, _, rfl⟩ := hv
      simp only [Act.put, List.setIfInBounds_toArray, List.set_cons_succ, List.set_cons_zero]
      repeat (first | (apply wpR_one; (case ho => (simp only [List.getElem?_toArray, List.getElem?_cons_succ, List.getElem?_cons_zero]; try exact rfl)); (case hw => rfl); (case hl => rfl); (case hsp => rfl); (case he => rfl); (case hv => (intro w' hw'; (try (have hw2 := Ext.trans hEW hw')); (try (have hw3 := Exc.trans hEW hw')); (try (have hw4 := Exk.trans hEW hw')); (try (have hw5 := Mrk.trans hEW hw')); go_simp; exact rfl)); (case hw0 => (first | exact Below.refl _ _ | exact Exc.of_ext (Below.refl _ _) | exact Exk.of_ext (Below.refl _ _) | exact Mrk.of_ext (Below.refl _ _))); simp only [Act.put, List.setIfInBounds_toArray, List.set_cons_succ, List.set_cons_zero]) | (apply wpR_early; (case ho => (simp only [List.getElem?_toArray, List.getElem?_cons_succ, List.getElem?_cons_zero]; try exact rfl)); (case hw => rfl); (case hl => rfl); (case hsp => rfl); (case he => rfl); (case hv => (intro w' hw'; (try have hw2 := Ext.trans hEW hw'); go_simp; exact rfl)); simp only [Act.put, List.setIfInBounds_toArray, List.set_cons_succ, List.set_cons_zero]) | (apply wpR_pass; (case ho => (simp only [List.getElem?_toArray, List.getElem?_cons_succ, List.getElem?_cons_zero]; try exact rfl)); (case hw => rfl); (case hl => rfl); simp only [Act.put, List.setIfInBounds_toArray, List.set_cons_succ, List.set_cons_zero]))
      refine wpR_new (by ((simp only [List.getElem?_toArray, List.getElem?_cons_succ, List.getElem?_cons_zero]; try exact rfl))) _ rfl rfl rfl (fun V v => Lasts.pure) (fun V V' h => rfl) (fun w' hw' hK => ?_) (fun v hv => ?_)
      · unfold opAt; go_simp; refine upAt_enter ?_
        refine (kept_any (Blk.ext hv2' (hEW.trans hw')) (zv.ext (hEW.trans hw'))).mono ?_
        rintro e w2 ⟨rfl, hE2⟩
        exact ⟨_, rfl, hE2, rfl⟩
      obtain ⟨_, _, _, rfl⟩ := hv
      simp only [Act.put, List.setIfInBounds_toArray, List.set_cons_succ, List.set_cons_zero]
      repeat (first | (apply wpR_one; (case ho => (simp only [List.getElem?_toArray, List.getElem?_cons_succ, List.getElem?_cons_zero]; try exact rfl)); (case hw => rfl); (case hl => rfl); (case hsp => rfl); (case he => rfl); (case hv => (intro w' hw'; (try (have hw2 := Ext.trans hEW hw')); (try (have hw3 := Exc.trans hEW hw')); (try (have hw4 := Exk.trans hEW hw')); (try (have hw5 := Mrk.trans hEW hw')); go_simp; exact rfl)); (case hw0 => (first | exact Below.refl _ _ | exact Exc.of_ext (Below.refl _ _) | exact Exk.of_ext (Below.refl _ _) | exact Mrk.of_ext (Below.refl _ _))); simp only [Act.put, List.setIfInBounds_toArray, List.set_cons_succ, List.set_cons_zero]) | (apply wpR_early; (case ho => (simp only [List.getElem?_toArray, List.getElem?_cons_succ, List.getElem?_cons_zero]; try exact rfl)); (case hw => rfl); (case hl => rfl); (case hsp => rfl); (case he => rfl); (case hv => (intro w' hw'; (try have hw2 := Ext.trans hEW hw'); go_simp; exact rfl)); simp only [Act.put, List.setIfInBounds_toArray, List.set_cons_succ, List.set_cons_zero]) | (apply wpR_pass; (case ho => (simp only [List.getElem?_toArray, List.getElem?_cons_succ, List.getElem?_cons_zero]; try exact rfl)); (case hw => rfl); (case hl => rfl); simp only [Act.put, List.setIfInBounds_toArray, List.set_cons_succ, List.set_cons_zero]))
      apply wpR_nil
      apply hN
      intro w' hE' hK _
      clear hK hN
      have hE2 := hEW.trans hE'
      go_wp2
      go_roundw
      case rel => exact ⟨k + 1, by omega, by go_num, hE2⟩
      case measure => simp [intOf]; omega
    · by_cases h2 : k < p.items.length + 2
      · have hb1 := hE1.blk hblk
        have y0 := mark_cell hb1 hSl.out (j := 0) (by omega) h2 (by omega)
        have y1 := mark_cell hb1 hSl.out (j := 1) (by omega) h2 (by omega)
        have y2 := mark_cell hb1 hSl.out (j := 2) (by omega) h2 (by omega)
        have y3 := mark_cell hb1 hSl.out (j := 3) (by omega) h2 (by omega)
        simp only [markIt, List.getElem?_cons_zero, List.getElem?_cons_succ, Nat.add_zero] at y0 y1 y2 y3
        have ey0 := hEr.cell y0
        have ey1 := hEr.cell y1
        have ey2 := hEr.cell y2
        have ey3 := hEr.cell y3
        clear y0 y1 y2 y3 hb1
        go_wp2
        go_roundw
        case rel => exact ⟨k + 1, by omega, by go_num, hEr⟩
        case measure => simp [intOf]; omega
      · go_wp2
        go_ret
        exact ⟨rfl, hEw⟩
end Go.Proofs.Ytjjbckdiojleeaa
