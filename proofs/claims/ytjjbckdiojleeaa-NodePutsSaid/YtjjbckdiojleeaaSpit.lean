/- Contracts of coppicelaw12.spareItem, keptItem. No condition but that what comes in lies in memory. -/
import Derived.Test.YtjjbckdiojleeaaNfinds
import Derived.Test.YtjjbckdiojleeaaNsmall
import Derived.Test.YtjjbckdiojleeaaRjoin
namespace Go.Proofs.Ytjjbckdiojleeaa
set_option linter.unusedVariables false
open Go.RowKit Go.Proofs
/-- What spareItem makes. -/
structure SpIt (w : World) (v : Value) (x : It) : Prop where
  mk_ ::
  ex : ∃ kg vg, v = .agg #[.slice (some ⟨kg, 0, none⟩) x.key.length (x.key.length + 64), .slice (some ⟨vg, 0, none⟩) x.val.length (x.val.length + 64), .int .i64 x.ch, .int .i64 x.sz] ∧ Spared w kg x.key ∧ Spared w vg x.val
theorem SpIt.ext {w w' : World} {v : Value} {x : It} (h : SpIt w v x) (he : Ext w w') : SpIt w' v x := by
  obtain ⟨kg, vg, h1, h2, h3⟩ := h.ex
  exact ⟨kg, vg, h1, Blk.ext h2 he, Blk.ext h3 he⟩
theorem SpIt.itv {w : World} {v : Value} {x : It} (h : SpIt w v x) (hs : Small x) : ItV w v x := by
  obtain ⟨kg, vg, h1, h2, h3⟩ := h.ex
  exact ⟨_, _, _, _, h1, h2.sl hs.k, h3.sl hs.v⟩
theorem ItV.small {w : World} {v : Value} {x : It} (h : ItV w v x) : Small x := by
  obtain ⟨_, _, _, _, _, h2, h3⟩ := h.ex
  exact ⟨h2.len, h3.len⟩
set_option maxHeartbeats 1000000 in
theorem spareItem_any {v : Value} {x : It} {w : World} (hv : ItV w v x) :
    Calls Try.prog 40 #[v] w fun e w' => ∃ v', e = .returned v' ∧ SpIt w' v' x ∧ Ext w w' := by
  obtain ⟨kA, kc, vA, vc, rfl, h1, h2⟩ := hv.ex
  clear hv
  go_enter Try.func40, Try.ntmps40
  go_wp2_with fail
  refine wp_cut (fun W => Ext w W ∧ W.heap[w.heap.size]? = some (.cells #[.slice kA x.key.length kc, .slice vA x.val.length vc, .int .i64 x.ch, .int .i64 x.sz] 51) ∧ W.heap[w.heap.size + 1]? = some (.cells #[.slice none 0 0, .slice none 0 0, .int .i64 0, .int .i64 0] 51)) ⟨(ext_alloc _ _).trans (ext_alloc _ _), heap_alloc2_old _ _ _, heap_alloc2_new _ _ _⟩ ?_
  rintro w1 ⟨hE, b0, b1⟩
  have hw1 := (Array.getElem?_eq_some_iff.1 b1).1
  refine wp_region_rg (Exc (fun k _ => k = w.heap.size + 1)) (rel_exc _) (fun w' => w'.heap[w.heap.size + 1]? = some (.cells #[.slice none 0 0, .slice none 0 0, .int .i64 0, .int .i64 0] 51)) [0, 1, 2, 3, 4, 5, 6, 7, 8, 9, 10, 11] (fun i => match i with
    | 2 => some fun _ => SpBy w1.heap.size x.key
    | 5 => some fun _ => SpBy w1.heap.size x.val
    | _ => none) (fun i => match i with
    | 11 => some fun V _ w' => w'.heap[w.heap.size + 1]? = some (.cells #[V 2, V 5, .int .i64 x.ch, .int .i64 x.sz] 51)
    | _ => none) (fun _ => false) (by kernel_rfl) (by kernel_rfl) (fun _ _ h he => he.blk h) b1 (fun W N hW hF0 hN => ?_)
  have hEW : Exc (fun k _ => k = w.heap.size + 1) w1 W := Exc.of_ext hW
  have hX : ∀ w', Exc (fun k _ => k = w.heap.size + 1) W w' → Ext w w' := fun w' h => (Exc.trans hEW h).to_ext hE (fun k _ hk => by omega)
  have B0 := Lib.hid b0
  have e0 : ∀ w', Exc (fun k _ => k = w.heap.size + 1) w1 w' → w'.cell? ⟨w.heap.size, 0, none⟩ = some (.slice kA x.key.length kc) := fun w' h => cell_of_row _ _ _ _ _ _ (h.blk B0.out (by omega))
  have e1 : ∀ w', Exc (fun k _ => k = w.heap.size + 1) w1 w' → w'.cell? ⟨w.heap.size, 1, none⟩ = some (.slice vA x.val.length vc) := fun w' h => cell_of_row _ _ _ _ _ _ (h.blk B0.out (by omega))
  have e2 : ∀ w', Exc (fun k _ => k = w.heap.size + 1) w1 w' → w'.cell? ⟨w.heap.size, 2, none⟩ = some (.int .i64 x.ch) := fun w' h => cell_of_row _ _ _ _ _ _ (h.blk B0.out (by omega))
  have e3 : ∀ w', Exc (fun k _ => k = w.heap.size + 1) w1 w' → w'.cell? ⟨w.heap.size, 3, none⟩ = some (.int .i64 x.sz) := fun w' h => cell_of_row _ _ _ _ _ _ (h.blk B0.out (by omega))
  clear b0
  repeat (first | (apply wpR_one; (case ho => (simp only [List.getElem?_toArray, List.getElem?_cons_succ, List.getElem?_cons_zero]; try exact rfl)); (case hw => rfl); (case hl => rfl); (case hsp => rfl); (case he => rfl); (case hv => (intro w' hw'; (try (have hw2 := Ext.trans hEW hw')); (try (have hw3 := Exc.trans hEW hw')); (try (have hw4 := Exk.trans hEW hw')); (try (have hw5 := Mrk.trans hEW hw')); go_simp; exact rfl)); (case hw0 => (first | exact Below.refl _ _ | exact Exc.of_ext (Below.refl _ _) | exact Exk.of_ext (Below.refl _ _) | exact Mrk.of_ext (Below.refl _ _))); simp only [Act.put, List.setIfInBounds_toArray, List.set_cons_succ, List.set_cons_zero]) | (apply wpR_early; (case ho => (simp only [List.getElem?_toArray, List.getElem?_cons_succ, List.getElem?_cons_zero]; try exact rfl)); (case hw => rfl); (case hl => rfl); (case hsp => rfl); (case he => rfl); (case hv => (intro w' hw'; (try have hw2 := Ext.trans hEW hw'); go_simp; exact rfl)); simp only [Act.put, List.setIfInBounds_toArray, List.set_cons_succ, List.set_cons_zero]) | (apply wpR_pass; (case ho => (simp only [List.getElem?_toArray, List.getElem?_cons_succ, List.getElem?_cons_zero]; try exact rfl)); (case hw => rfl); (case hl => rfl); simp only [Act.put, List.setIfInBounds_toArray, List.set_cons_succ, List.set_cons_zero]))
  refine wpR_new (by ((simp only [List.getElem?_toArray, List.getElem?_cons_succ, List.getElem?_cons_zero]; try exact rfl))) _ rfl rfl rfl (fun V v => SpBy.exc (fun k cs h1 h2 => by omega) _ _) (fun V V' h => rfl) (fun w' hw' hK => ?_) (fun v hv => ?_)
  · have HX := Lib.hid (hX w' hw')
    have hs := (hEW.trans hw').size
    clear hK
    unfold opAt; go_simp; refine upAt_enter ?_
    refine (spare_any (h1.ext HX.out)).mono ?_
    rintro e w2 ⟨sg, rfl, hg, hS, hE2⟩
    exact ⟨_, rfl, hE2, sg, rfl, by omega, hS⟩
  obtain ⟨kg, rfl⟩ : ∃ g, v = .slice (some ⟨g, 0, none⟩) x.key.length (x.key.length + 64) := by
    obtain ⟨_, _, _, g, e, _⟩ := hv
    exact ⟨g, e⟩
  clear hv
  simp only [Act.put, List.setIfInBounds_toArray, List.set_cons_succ, List.set_cons_zero]
  repeat (first | (apply wpR_one; (case ho => (simp only [List.getElem?_toArray, List.getElem?_cons_succ, List.getElem?_cons_zero]; try exact rfl)); (case hw => rfl); (case hl => rfl); (case hsp => rfl); (case he => rfl); (case hv => (intro w' hw'; (try (have hw2 := Ext.trans hEW hw')); (try (have hw3 := Exc.trans hEW hw')); (try (have hw4 := Exk.trans hEW hw')); (try (have hw5 := Mrk.trans hEW hw')); go_simp; exact rfl)); (case hw0 => (first | exact Below.refl _ _ | exact Exc.of_ext (Below.refl _ _) | exact Exk.of_ext (Below.refl _ _) | exact Mrk.of_ext (Below.refl _ _))); simp only [Act.put, List.setIfInBounds_toArray, List.set_cons_succ, List.set_cons_zero]) | (apply wpR_early; (case ho => (simp only [List.getElem?_toArray, List.getElem?_cons_succ, List.getElem?_cons_zero]; try exact rfl)); (case hw => rfl); (case hl => rfl); (case hsp => rfl); (case he => rfl); (case hv => (intro w' hw'; (try have hw2 := Ext.trans hEW hw'); go_simp; exact rfl)); simp only [Act.put, List.setIfInBounds_toArray, List.set_cons_succ, List.set_cons_zero]) | (apply wpR_pass; (case ho => (simp only [List.getElem?_toArray, List.getElem?_cons_succ, List.getElem?_cons_zero]; try exact rfl)); (case hw => rfl); (case hl => rfl); simp only [Act.put, List.setIfInBounds_toArray, List.set_cons_succ, List.set_cons_zero]))
  refine wpR_new (by ((simp only [List.getElem?_toArray, List.getElem?_cons_succ, List.getElem?_cons_zero]; try exact rfl))) _ rfl rfl rfl (fun V v => SpBy.exc (fun k cs h1 h2 => by omega) _ _) (fun V V' h => rfl) (fun w' hw' hK => ?_) (fun v hv => ?_)
  · have HX := Lib.hid (hX w' hw')
    have hs := (hEW.trans hw').size
    clear hK
    unfold opAt; go_simp; refine upAt_enter ?_
    refine (spare_any (h2.ext HX.out)).mono ?_
    rintro e w2 ⟨sg, rfl, hg, hS, hE2⟩
    exact ⟨_, rfl, hE2, sg, rfl, by omega, hS⟩
  obtain ⟨vg, rfl⟩ : ∃ g, v = .slice (some ⟨g, 0, none⟩) x.val.length (x.val.length + 64) := by
    obtain ⟨_, _, _, g, e, _⟩ := hv
    exact ⟨g, e⟩
  clear hv
  simp only [Act.put, List.setIfInBounds_toArray, List.set_cons_succ, List.set_cons_zero]
  repeat (first | (apply wpR_one; (case ho => (simp only [List.getElem?_toArray, List.getElem?_cons_succ, List.getElem?_cons_zero]; try exact rfl)); (case hw => rfl); (case hl => rfl); (case hsp => rfl); (case he => rfl); (case hv => (intro w' hw'; (try (have hw2 := Ext.trans hEW hw')); (try (have hw3 := Exc.trans hEW hw')); (try (have hw4 := Exk.trans hEW hw')); (try (have hw5 := Mrk.trans hEW hw')); go_simp; exact rfl)); (case hw0 => (first | exact Below.refl _ _ | exact Exc.of_ext (Below.refl _ _) | exact Exk.of_ext (Below.refl _ _) | exact Mrk.of_ext (Below.refl _ _))); simp only [Act.put, List.setIfInBounds_toArray, List.set_cons_succ, List.set_cons_zero]) | (apply wpR_early; (case ho => (simp only [List.getElem?_toArray, List.getElem?_cons_succ, List.getElem?_cons_zero]; try exact rfl)); (case hw => rfl); (case hl => rfl); (case hsp => rfl); (case he => rfl); (case hv => (intro w' hw'; (try have hw2 := Ext.trans hEW hw'); go_simp; exact rfl)); simp only [Act.put, List.setIfInBounds_toArray, List.set_cons_succ, List.set_cons_zero]) | (apply wpR_pass; (case ho => (simp only [List.getElem?_toArray, List.getElem?_cons_succ, List.getElem?_cons_zero]; try exact rfl)); (case hw => rfl); (case hl => rfl); simp only [Act.put, List.setIfInBounds_toArray, List.set_cons_succ, List.set_cons_zero]))
  refine wpR_late (by ((simp only [List.getElem?_toArray, List.getElem?_cons_succ, List.getElem?_cons_zero]; try exact rfl))) _ rfl rfl (fun V v => fun _ _ h he => he.blk h) (fun V V' h => by simp only [h 2 (by kernel_rfl), h 5 (by kernel_rfl)]) (fun w' hw' hK hF => ?_) (fun v hv => ?_)
  · refine opAt_list rfl #[] (fun Q hQ => ?_)
    refine wpList_store_box rfl 51 _ _ rfl (w.heap.size + 1) _ rfl rfl 51 _ hF (by kernel_rfl) rfl (by simp [Value.oneCell']) (fun w2 hb hg => ?_)
    exact hQ _ _ ⟨Exc.of_only hg (fun _ _ => rfl), hb⟩
  clear hv
  apply wpR_nil
  apply hN
  intro w' hE' hK hF
  obtain ⟨g1, e1', _, s1⟩ := (hK 2).2
  obtain ⟨g2, e2', _, s2⟩ := (hK 5).2
  obtain rfl := sl_inj (show Value.slice (some ⟨kg, 0, none⟩) x.key.length (x.key.length + 64) = _ from e1')
  obtain rfl := sl_inj (show Value.slice (some ⟨vg, 0, none⟩) x.val.length (x.val.length + 64) = _ from e2')
  have hbk : w'.heap[w.heap.size + 1]? = some (.cells #[.slice (some ⟨kg, 0, none⟩) x.key.length (x.key.length + 64), .slice (some ⟨vg, 0, none⟩) x.val.length (x.val.length + 64), .int .i64 x.ch, .int .i64 x.sz] 51) := hF
  have hE2 := hX w' hE'
  have S1 := Lib.hid s1
  have S2 := Lib.hid s2
  clear hK hN hF e0 e1 e2 e3 e1' e2' s1 s2 hX hEW hE' hW hF0
  go_wp2
  exact bodyPost_ret (results_cell_row rfl _ _ _ _ _ _ _ rfl hbk Try.underlying51 rfl (by kernel_rfl)) rfl ⟨_, rfl, ⟨kg, vg, rfl, S1.out, S2.out⟩, hE2⟩
set_option maxHeartbeats 1000000 in
theorem keptItem_any {v u : Value} {x : It} {w : World} (hv : SpIt w v x) (hu : ItV w u x) :
    Calls Try.prog 47 #[v, u] w fun e w' => e = .returned (.bool true) ∧ Ext w w' := by
  obtain ⟨kg, vg, rfl, s1, s2⟩ := hv.ex
  obtain ⟨kB, kd, vB, vd, rfl, h1, h2⟩ := hu.ex
  have hE0 := (ext_alloc w (.cells #[.slice (some ⟨kg, 0, none⟩) x.key.length (x.key.length + 64), .slice (some ⟨vg, 0, none⟩) x.val.length (x.val.length + 64), .int .i64 x.ch, .int .i64 x.sz] 51)).trans (ext_alloc _ (.cells #[.slice kB x.key.length kd, .slice vB x.val.length vd, .int .i64 x.ch, .int .i64 x.sz] 51))
  have HA := Lib.hid (heap_alloc2_old w (.cells #[.slice (some ⟨kg, 0, none⟩) x.key.length (x.key.length + 64), .slice (some ⟨vg, 0, none⟩) x.val.length (x.val.length + 64), .int .i64 x.ch, .int .i64 x.sz] 51) (.cells #[.slice kB x.key.length kd, .slice vB x.val.length vd, .int .i64 x.ch, .int .i64 x.sz] 51))
  have HB := Lib.hid (heap_alloc2_new w (.cells #[.slice (some ⟨kg, 0, none⟩) x.key.length (x.key.length + 64), .slice (some ⟨vg, 0, none⟩) x.val.length (x.val.length + 64), .int .i64 x.ch, .int .i64 x.sz] 51) (.cells #[.slice kB x.key.length kd, .slice vB x.val.length vd, .int .i64 x.ch, .int .i64 x.sz] 51))
  have hsk := h1.len
  have hsv := h2.len
  clear hv hu
  go_enter Try.func47, Try.ntmps47
  go_wp2_with fail
  refine (eqItem_any (x := x) (y := x) (Spared.sl (Blk.ext s1 hE0) hsk) (Spared.sl (Blk.ext s2 hE0) hsv) (h1.ext hE0) (h2.ext hE0) rfl rfl rfl rfl rfl rfl rfl rfl).mono ?_
  rintro e w1 ⟨rfl, hE1⟩
  rw [show eqIt x x = true by simp [eqIt]]
  replace HA := Lib.hid (hE1.blk HA.out)
  replace HB := Lib.hid (hE1.blk HB.out)
  have hE := hE0.trans hE1
  clear hE0 hE1
  have a0 := cell_of_row w1 w.heap.size 0 _ _ _ HA.out
  have a1 := cell_of_row w1 w.heap.size 1 _ _ _ HA.out
  have a2 := cell_of_row w1 w.heap.size 2 _ _ _ HA.out
  have a3 := cell_of_row w1 w.heap.size 3 _ _ _ HA.out
  simp only [List.getElem?_toArray, List.getElem?_cons_zero, List.getElem?_cons_succ] at a0 a1 a2 a3
  have b0 := cell_of_row w1 (w.heap.size + 1) 0 _ _ _ HB.out
  have b1 := cell_of_row w1 (w.heap.size + 1) 1 _ _ _ HB.out
  have b2 := cell_of_row w1 (w.heap.size + 1) 2 _ _ _ HB.out
  have b3 := cell_of_row w1 (w.heap.size + 1) 3 _ _ _ HB.out
  simp only [List.getElem?_toArray, List.getElem?_cons_zero, List.getElem?_cons_succ] at b0 b1 b2 b3
  go_wp2_with fail
  clear a0 a1 a2 a3 b0 b1 b2 b3
  refine (kept_any (Blk.ext s1 hE) (h1.ext hE)).mono ?_
  rintro e w2 ⟨rfl, hE2⟩
  replace HA := Lib.hid (hE2.blk HA.out)
  replace HB := Lib.hid (hE2.blk HB.out)
  replace hE := hE.trans hE2
  clear hE2
  have a0 := cell_of_row w2 w.heap.size 0 _ _ _ HA.out
  have a1 := cell_of_row w2 w.heap.size 1 _ _ _ HA.out
  have a2 := cell_of_row w2 w.heap.size 2 _ _ _ HA.out
  have a3 := cell_of_row w2 w.heap.size 3 _ _ _ HA.out
  simp only [List.getElem?_toArray, List.getElem?_cons_zero, List.getElem?_cons_succ] at a0 a1 a2 a3
  have b0 := cell_of_row w2 (w.heap.size + 1) 0 _ _ _ HB.out
  have b1 := cell_of_row w2 (w.heap.size + 1) 1 _ _ _ HB.out
  have b2 := cell_of_row w2 (w.heap.size + 1) 2 _ _ _ HB.out
  have b3 := cell_of_row w2 (w.heap.size + 1) 3 _ _ _ HB.out
  simp only [List.getElem?_toArray, List.getElem?_cons_zero, List.getElem?_cons_succ] at b0 b1 b2 b3
  go_wp2_with fail
  clear a0 a1 a2 a3 b0 b1 b2 b3
  refine (kept_any (Blk.ext s2 hE) (h2.ext hE)).mono ?_
  rintro e w3 ⟨rfl, hE3⟩
  have hEE := hE.trans hE3
  clear hE hE3
  go_wp2
  go_ret
  exact ⟨rfl, hEE⟩
end Go.Proofs.Ytjjbckdiojleeaa
