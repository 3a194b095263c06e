/- The walk of NodeLends. No condition but that what comes in lies in memory. -/
import Derived.Test.YtjjbckdiojleeaaTwor
import Derived.Test.YtjjbckdiojleeaaRlendf
import Derived.Test.YtjjbckdiojleeaaPgargs
import Derived.Test.YtjjbckdiojleeaaLentw
namespace Go.Proofs.Ytjjbckdiojleeaa
set_option linter.unusedVariables false
open Go.RowKit Go.Proofs
structure SmallL (a b : Pg) (s : List UInt8) : Prop where
  a : PSmall a
  b : PSmall b
  c : s.length ≤ 140737488355328
theorem rlend_any {v u : Value} {p q : Pg} {A : Option Addr} {c n : Nat} {sep : List UInt8} {toR : Bool} {w : World} (hv : PgV w v p) (hu : PgV w u q) (hs : Sl w A c sep) (hn : n = sep.length) (ht0 : lendOk p q toR = true → p.items.length + q.items.length ≤ 2199023255552) :
    Calls Try.prog 32 #[v, u, .slice A n c, .bool toR] w fun e w' => ∃ v1 v2 A' c', e = .returned (.tuple #[v1, v2, .slice A' (part3 (lendB p q sep toR)).length c', .bool (lendB p q sep toR).isSome]) ∧
      PgO w.heap.size w' v1 (part1 (lendB p q sep toR)) ∧ PgO w.heap.size w' v2 (part2 (lendB p q sep toR)) ∧ Own 5 w.heap.size w' A' c' (part3 (lendB p q sep toR)) ∧ Ext w w' := by
  cases toR
  · exact rlend_false hv hu hs hn ht0
  · exact rlend_true hv hu hs hn ht0
set_option maxRecDepth 100000 in
set_option maxHeartbeats 4000000 in
theorem lends_any {v : Value} {p q : Pg} {sep : List UInt8} {toR : Bool} {w : World} (hv : TwoV w v p q sep toR) :
    Calls Try.prog 8 #[v] w fun e w' => e = .returned (.bool true) ∧ Ext w w' := by
  obtain ⟨iA, ic, dA, dc, jA, jc, eA, ec, sA, sc, rfl, hi, hd, hj, hc, hs, hpl, hql⟩ := hv.ex
  have hv1 : PgV w (.agg #[.int .i64 p.kind, .int .i64 p.level, .slice iA p.items.length ic, .slice dA p.data.length dc, .int .i64 p.next]) p := ⟨iA, ic, dA, dc, rfl, hi, hd⟩
  have hv2 : PgV w (.agg #[.int .i64 q.kind, .int .i64 q.level, .slice jA q.items.length jc, .slice eA q.data.length ec, .int .i64 q.next]) q := ⟨jA, jc, eA, ec, rfl, hj, hc⟩
  have hsm1 := hv1.small
  have hsm2 := hv2.small
  have hsl := hs.len
  clear hv hi hd hj hc
  go_enter Try.func8, Try.ntmps8
  go_wp2_with fail
  refine wp_cut (fun W => Ext w W ∧ W.heap[w.heap.size]? = some (.cells #[.int .i64 p.kind, .int .i64 p.level, .slice iA p.items.length ic, .slice dA p.data.length dc, .int .i64 p.next, .int .i64 q.kind, .int .i64 q.level, .slice jA q.items.length jc, .slice eA q.data.length ec, .int .i64 q.next, .slice sA sep.length sc, .bool toR] 40)) ⟨ext_alloc _ _, heap_alloc_new _ _⟩ ?_
  rintro w1 ⟨hE, hb0⟩
  have HB0 := Lib.hid hb0
  have hw1 : w.heap.size < w1.heap.size := (Array.getElem?_eq_some_iff.1 hb0).1
  clear hb0
  refine wp_region_rg (Exk (PgBlk w1.heap.size)) (rel_exk _) (fun _ => True) [0, 1, 2, 3, 4, 5, 6, 7, 8, 9, 10, 11, 12, 13] (fun i => match i with
    | 2 => some fun V v w' => SpPg w' v p
    | 5 => some fun V v w' => SpPg w' v q
    | 8 => some fun V v w' => SpBy 0 sep v w'
    | 9 => some fun V => PgCell w1.heap.size
    | 10 => some fun V => PgCell w1.heap.size
    | _ => none) (fun i => match i with
    | 11 => some fun V _ => StoredAt w1.heap.size (V 2) (V 9)
    | 12 => some fun V _ => Stored2 w1.heap.size (V 2) (V 9) (V 5) (V 10)
    | _ => none) (fun _ => false) (by kernel_rfl) (by kernel_rfl) (fun _ _ h he => trivial) trivial (fun W N hW hF0 hN => ?_)
  have hEW : Exk (PgBlk w1.heap.size) w1 W := Exk.of_ext hW
  have hX : ∀ w', Exk (PgBlk w1.heap.size) W w' → Ext w w' := fun w' h => (Exk.trans hEW h).x.to_ext hE (fun k _ hk => by have := hk.1; omega)
  have t0 : ∀ w', Exk (PgBlk w1.heap.size) w1 w' → w'.cell? ⟨w.heap.size, 0, none⟩ = some (.int .i64 p.kind) := fun w' h => cell_of_row _ _ _ _ _ _ (h.x.blk HB0.out (PgBlk.notLt (by omega)))
  have t1 : ∀ w', Exk (PgBlk w1.heap.size) w1 w' → w'.cell? ⟨w.heap.size, 1, none⟩ = some (.int .i64 p.level) := fun w' h => cell_of_row _ _ _ _ _ _ (h.x.blk HB0.out (PgBlk.notLt (by omega)))
  have t2 : ∀ w', Exk (PgBlk w1.heap.size) w1 w' → w'.cell? ⟨w.heap.size, 2, none⟩ = some (.slice iA p.items.length ic) := fun w' h => cell_of_row _ _ _ _ _ _ (h.x.blk HB0.out (PgBlk.notLt (by omega)))
  have t3 : ∀ w', Exk (PgBlk w1.heap.size) w1 w' → w'.cell? ⟨w.heap.size, 3, none⟩ = some (.slice dA p.data.length dc) := fun w' h => cell_of_row _ _ _ _ _ _ (h.x.blk HB0.out (PgBlk.notLt (by omega)))
  have t4 : ∀ w', Exk (PgBlk w1.heap.size) w1 w' → w'.cell? ⟨w.heap.size, 4, none⟩ = some (.int .i64 p.next) := fun w' h => cell_of_row _ _ _ _ _ _ (h.x.blk HB0.out (PgBlk.notLt (by omega)))
  have t5 : ∀ w', Exk (PgBlk w1.heap.size) w1 w' → w'.cell? ⟨w.heap.size, 5, none⟩ = some (.int .i64 q.kind) := fun w' h => cell_of_row _ _ _ _ _ _ (h.x.blk HB0.out (PgBlk.notLt (by omega)))
  have t6 : ∀ w', Exk (PgBlk w1.heap.size) w1 w' → w'.cell? ⟨w.heap.size, 6, none⟩ = some (.int .i64 q.level) := fun w' h => cell_of_row _ _ _ _ _ _ (h.x.blk HB0.out (PgBlk.notLt (by omega)))
  have t7 : ∀ w', Exk (PgBlk w1.heap.size) w1 w' → w'.cell? ⟨w.heap.size, 7, none⟩ = some (.slice jA q.items.length jc) := fun w' h => cell_of_row _ _ _ _ _ _ (h.x.blk HB0.out (PgBlk.notLt (by omega)))
  have t8 : ∀ w', Exk (PgBlk w1.heap.size) w1 w' → w'.cell? ⟨w.heap.size, 8, none⟩ = some (.slice eA q.data.length ec) := fun w' h => cell_of_row _ _ _ _ _ _ (h.x.blk HB0.out (PgBlk.notLt (by omega)))
  have t9 : ∀ w', Exk (PgBlk w1.heap.size) w1 w' → w'.cell? ⟨w.heap.size, 9, none⟩ = some (.int .i64 q.next) := fun w' h => cell_of_row _ _ _ _ _ _ (h.x.blk HB0.out (PgBlk.notLt (by omega)))
  have t10 : ∀ w', Exk (PgBlk w1.heap.size) w1 w' → w'.cell? ⟨w.heap.size, 10, none⟩ = some (.slice sA sep.length sc) := fun w' h => cell_of_row _ _ _ _ _ _ (h.x.blk HB0.out (PgBlk.notLt (by omega)))
  have t11 : ∀ w', Exk (PgBlk w1.heap.size) w1 w' → w'.cell? ⟨w.heap.size, 11, none⟩ = some (.bool toR) := fun w' h => cell_of_row _ _ _ _ _ _ (h.x.blk HB0.out (PgBlk.notLt (by omega)))
  repeat (first | (apply wpR_one; (case ho => (simp only [List.getElem?_toArray, List.getElem?_cons_succ, List.getElem?_cons_zero]; try exact rfl)); (case hw => rfl); (case hl => rfl); (case hsp => rfl); (case he => rfl); (case hv => (intro w' hw'; (try (have hw2 := Ext.trans hEW hw')); (try (have hw3 := Exc.trans hEW hw')); (try (have hw4 := Exk.trans hEW hw')); (try (have hw5 := Mrk.trans hEW hw')); go_simp; exact rfl)); (case hw0 => (first | exact Below.refl _ _ | exact Exc.of_ext (Below.refl _ _) | exact Exk.of_ext (Below.refl _ _) | exact Mrk.of_ext (Below.refl _ _))); simp only [Act.put, List.setIfInBounds_toArray, List.set_cons_succ, List.set_cons_zero]) | (apply wpR_early; (case ho => (simp only [List.getElem?_toArray, List.getElem?_cons_succ, List.getElem?_cons_zero]; try exact rfl)); (case hw => rfl); (case hl => rfl); (case hsp => rfl); (case he => rfl); (case hv => (intro w' hw'; (try have hw2 := Ext.trans hEW hw'); go_simp; exact rfl)); simp only [Act.put, List.setIfInBounds_toArray, List.set_cons_succ, List.set_cons_zero]) | (apply wpR_pass; (case ho => (simp only [List.getElem?_toArray, List.getElem?_cons_succ, List.getElem?_cons_zero]; try exact rfl)); (case hw => rfl); (case hl => rfl); simp only [Act.put, List.setIfInBounds_toArray, List.set_cons_succ, List.set_cons_zero]))
  refine wpR_new (by ((simp only [List.getElem?_toArray, List.getElem?_cons_succ, List.getElem?_cons_zero]; try exact rfl))) _ rfl rfl rfl (fun V v => SpPg.lastsK _ _) (fun V V' h => rfl) (fun w' hw' hK => ?_) (fun v hv => ?_)
  · have HX := Lib.hid (hX w' hw')
    clear hK
    unfold opAt; go_simp; refine upAt_enter ?_
    refine (sparePage_any (hv1.ext HX.out)).mono ?_
    rintro e w2 ⟨v', rfl, hS, hE2⟩
    exact ⟨_, rfl, hE2, hS⟩
  obtain ⟨xg, xd, rfl⟩ : ∃ xg xd, v = .agg #[.int .i64 p.kind, .int .i64 p.level, .slice (some ⟨xg, 0, none⟩) p.items.length (p.items.length + 2), .slice (some ⟨xd, 0, none⟩) p.data.length (p.data.length + 64), .int .i64 p.next] := by
    obtain ⟨_, _, _, hO⟩ := hv
    obtain ⟨g, ps, gd, e, _⟩ := hO.ex
    exact ⟨_, _, e⟩
  clear hv
  simp only [Act.put, List.setIfInBounds_toArray, List.set_cons_succ, List.set_cons_zero]
  repeat (first | (apply wpR_one; (case ho => (simp only [List.getElem?_toArray, List.getElem?_cons_succ, List.getElem?_cons_zero]; try exact rfl)); (case hw => rfl); (case hl => rfl); (case hsp => rfl); (case he => rfl); (case hv => (intro w' hw'; (try (have hw2 := Ext.trans hEW hw')); (try (have hw3 := Exc.trans hEW hw')); (try (have hw4 := Exk.trans hEW hw')); (try (have hw5 := Mrk.trans hEW hw')); go_simp; exact rfl)); (case hw0 => (first | exact Below.refl _ _ | exact Exc.of_ext (Below.refl _ _) | exact Exk.of_ext (Below.refl _ _) | exact Mrk.of_ext (Below.refl _ _))); simp only [Act.put, List.setIfInBounds_toArray, List.set_cons_succ, List.set_cons_zero]) | (apply wpR_early; (case ho => (simp only [List.getElem?_toArray, List.getElem?_cons_succ, List.getElem?_cons_zero]; try exact rfl)); (case hw => rfl); (case hl => rfl); (case hsp => rfl); (case he => rfl); (case hv => (intro w' hw'; (try have hw2 := Ext.trans hEW hw'); go_simp; exact rfl)); simp only [Act.put, List.setIfInBounds_toArray, List.set_cons_succ, List.set_cons_zero]) | (apply wpR_pass; (case ho => (simp only [List.getElem?_toArray, List.getElem?_cons_succ, List.getElem?_cons_zero]; try exact rfl)); (case hw => rfl); (case hl => rfl); simp only [Act.put, List.setIfInBounds_toArray, List.set_cons_succ, List.set_cons_zero]))
  refine wpR_new (by ((simp only [List.getElem?_toArray, List.getElem?_cons_succ, List.getElem?_cons_zero]; try exact rfl))) _ rfl rfl rfl (fun V v => SpPg.lastsK _ _) (fun V V' h => rfl) (fun w' hw' hK => ?_) (fun v hv => ?_)
  · have HX := Lib.hid (hX w' hw')
    clear hK
    unfold opAt; go_simp; refine upAt_enter ?_
    refine (sparePage_any (hv2.ext HX.out)).mono ?_
    rintro e w2 ⟨v', rfl, hS, hE2⟩
    exact ⟨_, rfl, hE2, hS⟩
  obtain ⟨yg, yd, rfl⟩ : ∃ yg yd, v = .agg #[.int .i64 q.kind, .int .i64 q.level, .slice (some ⟨yg, 0, none⟩) q.items.length (q.items.length + 2), .slice (some ⟨yd, 0, none⟩) q.data.length (q.data.length + 64), .int .i64 q.next] := by
    obtain ⟨_, _, _, hO⟩ := hv
    obtain ⟨g, ps, gd, e, _⟩ := hO.ex
    exact ⟨_, _, e⟩
  clear hv
  simp only [Act.put, List.setIfInBounds_toArray, List.set_cons_succ, List.set_cons_zero]
  repeat (first | (apply wpR_one; (case ho => (simp only [List.getElem?_toArray, List.getElem?_cons_succ, List.getElem?_cons_zero]; try exact rfl)); (case hw => rfl); (case hl => rfl); (case hsp => rfl); (case he => rfl); (case hv => (intro w' hw'; (try (have hw2 := Ext.trans hEW hw')); (try (have hw3 := Exc.trans hEW hw')); (try (have hw4 := Exk.trans hEW hw')); (try (have hw5 := Mrk.trans hEW hw')); go_simp; exact rfl)); (case hw0 => (first | exact Below.refl _ _ | exact Exc.of_ext (Below.refl _ _) | exact Exk.of_ext (Below.refl _ _) | exact Mrk.of_ext (Below.refl _ _))); simp only [Act.put, List.setIfInBounds_toArray, List.set_cons_succ, List.set_cons_zero]) | (apply wpR_early; (case ho => (simp only [List.getElem?_toArray, List.getElem?_cons_succ, List.getElem?_cons_zero]; try exact rfl)); (case hw => rfl); (case hl => rfl); (case hsp => rfl); (case he => rfl); (case hv => (intro w' hw'; (try have hw2 := Ext.trans hEW hw'); go_simp; exact rfl)); simp only [Act.put, List.setIfInBounds_toArray, List.set_cons_succ, List.set_cons_zero]) | (apply wpR_pass; (case ho => (simp only [List.getElem?_toArray, List.getElem?_cons_succ, List.getElem?_cons_zero]; try exact rfl)); (case hw => rfl); (case hl => rfl); simp only [Act.put, List.setIfInBounds_toArray, List.set_cons_succ, List.set_cons_zero]))
  refine wpR_new (by ((simp only [List.getElem?_toArray, List.getElem?_cons_succ, List.getElem?_cons_zero]; try exact rfl))) _ rfl rfl rfl (fun V v => SpBy.lastsK _ _) (fun V V' h => rfl) (fun w' hw' hK => ?_) (fun v hv => ?_)
  · have HX := Lib.hid (hX w' hw')
    clear hK
    unfold opAt; go_simp; refine upAt_enter ?_
    refine (spare_any (hs.ext HX.out)).mono ?_
    rintro e w2 ⟨sg, rfl, _, hS, hE2⟩
    exact ⟨_, rfl, hE2, sg, rfl, Nat.zero_le _, hS⟩
  obtain ⟨sg, rfl⟩ : ∃ sg, v = .slice (some ⟨sg, 0, none⟩) sep.length (sep.length + 64) := by
    obtain ⟨_, _, _, g, e, _⟩ := hv
    exact ⟨_, e⟩
  clear hv
  simp only [Act.put, List.setIfInBounds_toArray, List.set_cons_succ, List.set_cons_zero]
  refine wpR_alloc (by ((simp only [List.getElem?_toArray, List.getElem?_cons_succ, List.getElem?_cons_zero]; try exact rfl))) _ rfl rfl rfl (fun V v => PgCell.lasts _ _) (fun V V' h => rfl) (fun w' hw' hK => ?_) (fun v hv => ?_)
  · have hXs := (hEW.trans hw').x.size
    unfold opAt
    go_simp
    exact upAt_value ⟨ext_alloc _ _, ⟨_, rfl, hXs, _, heap_alloc_new _ _, rfl⟩, fun _ g hg => by injection hg with hg; exact ⟨hg.symm, by simp⟩⟩
  obtain ⟨g1, rfl⟩ : ∃ g, v = .pointer (some ⟨g, 0, none⟩) := by
    obtain ⟨_, _, _, g, e, _⟩ := hv
    exact ⟨g, e⟩
  clear hv
  simp only [Act.put, List.setIfInBounds_toArray, List.set_cons_succ, List.set_cons_zero]
  refine wpR_alloc (by ((simp only [List.getElem?_toArray, List.getElem?_cons_succ, List.getElem?_cons_zero]; try exact rfl))) _ rfl rfl rfl (fun V v => PgCell.lasts _ _) (fun V V' h => rfl) (fun w' hw' hK => ?_) (fun v hv => ?_)
  · have hXs := (hEW.trans hw').x.size
    unfold opAt
    go_simp
    exact upAt_value ⟨ext_alloc _ _, ⟨_, rfl, hXs, _, heap_alloc_new _ _, rfl⟩, fun _ g hg => by injection hg with hg; exact ⟨hg.symm, by simp⟩⟩
  obtain ⟨g2, rfl⟩ : ∃ g, v = .pointer (some ⟨g, 0, none⟩) := by
    obtain ⟨_, _, _, g, e, _⟩ := hv
    exact ⟨g, e⟩
  clear hv
  simp only [Act.put, List.setIfInBounds_toArray, List.set_cons_succ, List.set_cons_zero]
  refine wpR_late (by ((simp only [List.getElem?_toArray, List.getElem?_cons_succ, List.getElem?_cons_zero]; try exact rfl))) _ rfl rfl (fun V v w' w2 h he => h.ext he) (fun V V' h => by simp only [h 2 (by kernel_rfl), h 9 (by kernel_rfl)]) (fun w' hw' hK hF => ?_) (fun v hv => ?_)
  · obtain ⟨g, e8, hg8, cs, hb8, hs8⟩ := (hK 9 (by kernel_rfl)).2
    obtain rfl := ptr_inj (show Value.pointer (some ⟨g1, 0, none⟩) = _ from e8)
    refine opAt_list rfl #[] (fun Q hQ => ?_)
    refine wpList_store_box rfl 26 _ _ rfl g1 _ rfl rfl 26 _ hb8 (by kernel_rfl) hs8 (by simp [Value.oneCell']) (fun w2 hb hg => ?_)
    exact hQ _ _ ⟨Exk.of_only hg hb8 hb (by rw [hs8]; rfl) ⟨hg8, _, _, rfl⟩, ⟨g1, _, rfl, hg8, rfl, hb⟩⟩
  clear hv
  simp only [Act.put, List.setIfInBounds_toArray, List.set_cons_succ, List.set_cons_zero]
  refine wpR_lateP (by ((simp only [List.getElem?_toArray, List.getElem?_cons_succ, List.getElem?_cons_zero]; try exact rfl))) _ rfl rfl (fun V v w' w2 h he => ⟨h.1.ext he, h.2.1.ext he, h.2.2⟩) (fun V V' h => by simp only [h 2 (by kernel_rfl), h 9 (by kernel_rfl), h 5 (by kernel_rfl), h 10 (by kernel_rfl)]) (fun w' hw' hK hF hP => ?_) (fun v hv => ?_)
  · obtain ⟨g, e9, hg9, cs, hb9, hs9⟩ := (hK 10 (by kernel_rfl)).2
    obtain rfl := ptr_inj (show Value.pointer (some ⟨g2, 0, none⟩) = _ from e9)
    have hne : g1 ≠ g2 := fun e => hP 9 10 (by kernel_rfl) (by kernel_rfl) (by decide) (by kernel_rfl) (by kernel_rfl) g1 rfl (by rw [e]; rfl)
    obtain ⟨g', cs', e10, hg10, e11, hb10⟩ := hF
    obtain rfl := ptr_inj (show Value.pointer (some ⟨g1, 0, none⟩) = _ from e10)
    refine opAt_list rfl #[] (fun Q hQ => ?_)
    refine wpList_store_box rfl 26 _ _ rfl g2 _ rfl rfl 26 _ hb9 (by kernel_rfl) hs9 (by simp [Value.oneCell']) (fun w2 hb hg => ?_)
    exact hQ _ _ ⟨Exk.of_only hg hb9 hb (by rw [hs9]; rfl) ⟨hg9, _, _, rfl⟩, ⟨g1, _, rfl, hg10, e11, blk_other hb10 hg hne⟩, ⟨g2, _, rfl, hg9, rfl, hb⟩, fun e => hne (ptr_inj (show Value.pointer (some ⟨g1, 0, none⟩) = Value.pointer (some ⟨g2, 0, none⟩) from e))⟩
  clear hv
  simp only [Act.put, List.setIfInBounds_toArray, List.set_cons_succ, List.set_cons_zero]
  repeat (first | (apply wpR_one; (case ho => (simp only [List.getElem?_toArray, List.getElem?_cons_succ, List.getElem?_cons_zero]; try exact rfl)); (case hw => rfl); (case hl => rfl); (case hsp => rfl); (case he => rfl); (case hv => (intro w' hw'; (try (have hw2 := Ext.trans hEW hw')); (try (have hw3 := Exc.trans hEW hw')); (try (have hw4 := Exk.trans hEW hw')); (try (have hw5 := Mrk.trans hEW hw')); go_simp; exact rfl)); (case hw0 => (first | exact Below.refl _ _ | exact Exc.of_ext (Below.refl _ _) | exact Exk.of_ext (Below.refl _ _) | exact Mrk.of_ext (Below.refl _ _))); simp only [Act.put, List.setIfInBounds_toArray, List.set_cons_succ, List.set_cons_zero]) | (apply wpR_early; (case ho => (simp only [List.getElem?_toArray, List.getElem?_cons_succ, List.getElem?_cons_zero]; try exact rfl)); (case hw => rfl); (case hl => rfl); (case hsp => rfl); (case he => rfl); (case hv => (intro w' hw'; (try have hw2 := Ext.trans hEW hw'); go_simp; exact rfl)); simp only [Act.put, List.setIfInBounds_toArray, List.set_cons_succ, List.set_cons_zero]) | (apply wpR_pass; (case ho => (simp only [List.getElem?_toArray, List.getElem?_cons_succ, List.getElem?_cons_zero]; try exact rfl)); (case hw => rfl); (case hl => rfl); simp only [Act.put, List.setIfInBounds_toArray, List.set_cons_succ, List.set_cons_zero]))
  apply wpR_nil
  apply hN
  intro w4 hE' hK hF
  have hS : TwoS w w4 p q sep (.cells #[.int .i64 p.kind, .int .i64 p.level, .slice iA p.items.length ic, .slice dA p.data.length dc, .int .i64 p.next, .int .i64 q.kind, .int .i64 q.level, .slice jA q.items.length jc, .slice eA q.data.length ec, .int .i64 q.next, .slice sA sep.length sc, .bool toR] 40) xg xd yg yd sg g1 g2 := by
    have hx := (hEW.trans hE').x
    have o1 : SpPg w4 _ p := (hK 2).2
    have o2 : SpPg w4 _ q := (hK 5).2
    have o3 : SpBy 0 sep _ w4 := (hK 8).2
    obtain ⟨s1, s2, _⟩ := hF
    obtain ⟨_, e3, _, o3⟩ := o3
    obtain rfl := sl_inj e3
    obtain ⟨_, _, x1, x2, x3, x4⟩ := s1
    obtain rfl := ptr_inj x1
    injection x3 with x3
    subst x3
    obtain ⟨_, _, y1, y2, y3, y4⟩ := s2
    obtain rfl := ptr_inj y1
    injection y3 with y3
    subst y3
    exact ⟨hX w4 hE', hx.blk HB0.out (PgBlk.notLt (by omega)), o1, o2, o3, x4, y4⟩
  clear hK hN hF t0 t1 t2 t3 t4 t5 t6 t7 t8 t9 t10 t11 hX hEW hE' hW hF0 HB0 hE
  obtain ⟨hE, hT, hSx, hSy, hSs, hX, hY⟩ := hS
  have hlm0 : lendOk p q toR = true → p.items.length + q.items.length ≤ 2199023255552 := lend_bound hpl hql
  have hlm : Small3 (lendB p q sep toR) := by
    by_cases h : lendOk p q toR = true
    · exact lend_small hsm1 hsm2 hsl (hlm0 h)
    · rw [show lendB p q sep toR = none by unfold lendB; rw [if_neg h]]
      exact Small3.none_
  obtain ⟨la, hla⟩ : ∃ x, part1 (lendB p q sep toR) = x := ⟨_, rfl⟩
  obtain ⟨lb, hlb⟩ : ∃ x, part2 (lendB p q sep toR) = x := ⟨_, rfl⟩
  obtain ⟨ls, hls⟩ : ∃ x, part3 (lendB p q sep toR) = x := ⟨_, rfl⟩
  obtain ⟨lz, hlz⟩ : ∃ x, (lendB p q sep toR).isSome = x := ⟨_, rfl⟩
  have hm : SmallL la lb ls := ⟨hla ▸ hlm.a, hlb ▸ hlm.b, hls ▸ hlm.c⟩
  have HLA := Lib.hid hla
  have HLB := Lib.hid hlb
  have HLS := Lib.hid hls
  have HLZ := Lib.hid hlz
  have HT := Lib.hid hT
  have HX := Lib.hid hX
  have HY := Lib.hid hY
  clear hT hX hY hla hlb hls hlz hlm hlm0
  have x0 := cell_of_row w4 g1 0 _ _ _ HX.out
  have x1 := cell_of_row w4 g1 1 _ _ _ HX.out
  have x2 := cell_of_row w4 g1 2 _ _ _ HX.out
  have x3 := cell_of_row w4 g1 3 _ _ _ HX.out
  have x4 := cell_of_row w4 g1 4 _ _ _ HX.out
  simp only [List.getElem?_toArray, List.getElem?_cons_zero, List.getElem?_cons_succ] at x0 x1 x2 x3 x4
  have y0 := cell_of_row w4 g2 0 _ _ _ HY.out
  have y1 := cell_of_row w4 g2 1 _ _ _ HY.out
  have y2 := cell_of_row w4 g2 2 _ _ _ HY.out
  have y3 := cell_of_row w4 g2 3 _ _ _ HY.out
  have y4 := cell_of_row w4 g2 4 _ _ _ HY.out
  simp only [List.getElem?_toArray, List.getElem?_cons_zero, List.getElem?_cons_succ] at y0 y1 y2 y3 y4
  have t0 := cell_of_row w4 w.heap.size 0 _ _ _ HT.out
  have t1 := cell_of_row w4 w.heap.size 1 _ _ _ HT.out
  have t2 := cell_of_row w4 w.heap.size 2 _ _ _ HT.out
  have t3 := cell_of_row w4 w.heap.size 3 _ _ _ HT.out
  have t4 := cell_of_row w4 w.heap.size 4 _ _ _ HT.out
  have t5 := cell_of_row w4 w.heap.size 5 _ _ _ HT.out
  have t6 := cell_of_row w4 w.heap.size 6 _ _ _ HT.out
  have t7 := cell_of_row w4 w.heap.size 7 _ _ _ HT.out
  have t8 := cell_of_row w4 w.heap.size 8 _ _ _ HT.out
  have t9 := cell_of_row w4 w.heap.size 9 _ _ _ HT.out
  have t10 := cell_of_row w4 w.heap.size 10 _ _ _ HT.out
  have t11 := cell_of_row w4 w.heap.size 11 _ _ _ HT.out
  simp only [List.getElem?_toArray, List.getElem?_cons_zero, List.getElem?_cons_succ] at t0 t1 t2 t3 t4 t5 t6 t7 t8 t9 t10 t11
  go_wp2_with fail
  clear x0 x1 x2 x3 x4 y0 y1 y2 y3 y4 t0 t1 t2 t3 t4 t5 t6 t7 t8 t9 t10 t11
  refine (nlend_any (hSx.pgv hsm1) (hSy.pgv hsm2) (hSs.sl hsl) rfl (lend_bound hpl hql)).mono ?_
  rintro e w5 ⟨v1, v2, A5, c5, rfl, o1, o2, os, hE5⟩
  rw [HLA.out] at o1
  rw [HLB.out] at o2
  rw [HLS.out] at os ⊢
  rw [HLZ.out]
  have q1 := o1.pgv hm.a
  have q2 := o2.pgv hm.b
  have q3 := os.sl hm.c
  clear o1 o2 os
  obtain ⟨iA1, ic1, dA1, dc1, rfl, _, _⟩ := q1.ex
  obtain ⟨iA2, ic2, dA2, dc2, rfl, _, _⟩ := q2.ex
  replace HT := Lib.hid (hE5.blk HT.out)
  replace HX := Lib.hid (hE5.blk HX.out)
  replace HY := Lib.hid (hE5.blk HY.out)
  replace hSx := hSx.ext hE5
  replace hSy := hSy.ext hE5
  replace hSs := hSs.ext hE5
  replace hE := hE.trans hE5
  have hx5 := (ext_alloc w5 (.cells #[.int .i64 la.kind, .int .i64 la.level, .slice iA1 la.items.length ic1, .slice dA1 la.data.length dc1, .int .i64 la.next] 26)).trans (ext_alloc _ (.cells #[.int .i64 lb.kind, .int .i64 lb.level, .slice iA2 lb.items.length ic2, .slice dA2 lb.data.length dc2, .int .i64 lb.next] 26))
  have HA := Lib.hid (heap_alloc2_old w5 (.cells #[.int .i64 la.kind, .int .i64 la.level, .slice iA1 la.items.length ic1, .slice dA1 la.data.length dc1, .int .i64 la.next] 26) (.cells #[.int .i64 lb.kind, .int .i64 lb.level, .slice iA2 lb.items.length ic2, .slice dA2 lb.data.length dc2, .int .i64 lb.next] 26))
  have HB := Lib.hid (heap_alloc2_new w5 (.cells #[.int .i64 la.kind, .int .i64 la.level, .slice iA1 la.items.length ic1, .slice dA1 la.data.length dc1, .int .i64 la.next] 26) (.cells #[.int .i64 lb.kind, .int .i64 lb.level, .slice iA2 lb.items.length ic2, .slice dA2 lb.data.length dc2, .int .i64 lb.next] 26))
  replace HT := Lib.hid (hx5.blk HT.out)
  replace HX := Lib.hid (hx5.blk HX.out)
  replace HY := Lib.hid (hx5.blk HY.out)
  replace hSx := hSx.ext hx5
  replace hSy := hSy.ext hx5
  replace hSs := hSs.ext hx5
  replace q1 := q1.ext hx5
  replace q2 := q2.ext hx5
  replace q3 := q3.ext hx5
  replace hE := hE.trans hx5
  clear hE5
  have t0 := cell_of_row ((w5.alloc (.cells #[.int .i64 la.kind, .int .i64 la.level, .slice iA1 la.items.length ic1, .slice dA1 la.data.length dc1, .int .i64 la.next] 26)).alloc (.cells #[.int .i64 lb.kind, .int .i64 lb.level, .slice iA2 lb.items.length ic2, .slice dA2 lb.data.length dc2, .int .i64 lb.next] 26)) w.heap.size 0 _ _ _ HT.out
  have t1 := cell_of_row ((w5.alloc (.cells #[.int .i64 la.kind, .int .i64 la.level, .slice iA1 la.items.length ic1, .slice dA1 la.data.length dc1, .int .i64 la.next] 26)).alloc (.cells #[.int .i64 lb.kind, .int .i64 lb.level, .slice iA2 lb.items.length ic2, .slice dA2 lb.data.length dc2, .int .i64 lb.next] 26)) w.heap.size 1 _ _ _ HT.out
  have t2 := cell_of_row ((w5.alloc (.cells #[.int .i64 la.kind, .int .i64 la.level, .slice iA1 la.items.length ic1, .slice dA1 la.data.length dc1, .int .i64 la.next] 26)).alloc (.cells #[.int .i64 lb.kind, .int .i64 lb.level, .slice iA2 lb.items.length ic2, .slice dA2 lb.data.length dc2, .int .i64 lb.next] 26)) w.heap.size 2 _ _ _ HT.out
  have t3 := cell_of_row ((w5.alloc (.cells #[.int .i64 la.kind, .int .i64 la.level, .slice iA1 la.items.length ic1, .slice dA1 la.data.length dc1, .int .i64 la.next] 26)).alloc (.cells #[.int .i64 lb.kind, .int .i64 lb.level, .slice iA2 lb.items.length ic2, .slice dA2 lb.data.length dc2, .int .i64 lb.next] 26)) w.heap.size 3 _ _ _ HT.out
  have t4 := cell_of_row ((w5.alloc (.cells #[.int .i64 la.kind, .int .i64 la.level, .slice iA1 la.items.length ic1, .slice dA1 la.data.length dc1, .int .i64 la.next] 26)).alloc (.cells #[.int .i64 lb.kind, .int .i64 lb.level, .slice iA2 lb.items.length ic2, .slice dA2 lb.data.length dc2, .int .i64 lb.next] 26)) w.heap.size 4 _ _ _ HT.out
  have t5 := cell_of_row ((w5.alloc (.cells #[.int .i64 la.kind, .int .i64 la.level, .slice iA1 la.items.length ic1, .slice dA1 la.data.length dc1, .int .i64 la.next] 26)).alloc (.cells #[.int .i64 lb.kind, .int .i64 lb.level, .slice iA2 lb.items.length ic2, .slice dA2 lb.data.length dc2, .int .i64 lb.next] 26)) w.heap.size 5 _ _ _ HT.out
  have t6 := cell_of_row ((w5.alloc (.cells #[.int .i64 la.kind, .int .i64 la.level, .slice iA1 la.items.length ic1, .slice dA1 la.data.length dc1, .int .i64 la.next] 26)).alloc (.cells #[.int .i64 lb.kind, .int .i64 lb.level, .slice iA2 lb.items.length ic2, .slice dA2 lb.data.length dc2, .int .i64 lb.next] 26)) w.heap.size 6 _ _ _ HT.out
  have t7 := cell_of_row ((w5.alloc (.cells #[.int .i64 la.kind, .int .i64 la.level, .slice iA1 la.items.length ic1, .slice dA1 la.data.length dc1, .int .i64 la.next] 26)).alloc (.cells #[.int .i64 lb.kind, .int .i64 lb.level, .slice iA2 lb.items.length ic2, .slice dA2 lb.data.length dc2, .int .i64 lb.next] 26)) w.heap.size 7 _ _ _ HT.out
  have t8 := cell_of_row ((w5.alloc (.cells #[.int .i64 la.kind, .int .i64 la.level, .slice iA1 la.items.length ic1, .slice dA1 la.data.length dc1, .int .i64 la.next] 26)).alloc (.cells #[.int .i64 lb.kind, .int .i64 lb.level, .slice iA2 lb.items.length ic2, .slice dA2 lb.data.length dc2, .int .i64 lb.next] 26)) w.heap.size 8 _ _ _ HT.out
  have t9 := cell_of_row ((w5.alloc (.cells #[.int .i64 la.kind, .int .i64 la.level, .slice iA1 la.items.length ic1, .slice dA1 la.data.length dc1, .int .i64 la.next] 26)).alloc (.cells #[.int .i64 lb.kind, .int .i64 lb.level, .slice iA2 lb.items.length ic2, .slice dA2 lb.data.length dc2, .int .i64 lb.next] 26)) w.heap.size 9 _ _ _ HT.out
  have t10 := cell_of_row ((w5.alloc (.cells #[.int .i64 la.kind, .int .i64 la.level, .slice iA1 la.items.length ic1, .slice dA1 la.data.length dc1, .int .i64 la.next] 26)).alloc (.cells #[.int .i64 lb.kind, .int .i64 lb.level, .slice iA2 lb.items.length ic2, .slice dA2 lb.data.length dc2, .int .i64 lb.next] 26)) w.heap.size 10 _ _ _ HT.out
  have t11 := cell_of_row ((w5.alloc (.cells #[.int .i64 la.kind, .int .i64 la.level, .slice iA1 la.items.length ic1, .slice dA1 la.data.length dc1, .int .i64 la.next] 26)).alloc (.cells #[.int .i64 lb.kind, .int .i64 lb.level, .slice iA2 lb.items.length ic2, .slice dA2 lb.data.length dc2, .int .i64 lb.next] 26)) w.heap.size 11 _ _ _ HT.out
  simp only [List.getElem?_toArray, List.getElem?_cons_zero, List.getElem?_cons_succ] at t0 t1 t2 t3 t4 t5 t6 t7 t8 t9 t10 t11
  go_wp2_with fail
  obtain ⟨b6, h6⟩ : ∃ b, w5.heap.size = b := ⟨_, rfl⟩
  rw [h6] at HA HB ⊢
  clear t0 t1 t2 t3 t4 t5 t6 t7 t8 t9 t10 t11 hx5 h6
  refine (rlend_any (hv1.ext hE) (hv2.ext hE) (hs.ext hE) rfl (lend_bound hpl hql)).mono ?_
  rintro e w6 ⟨v1, v2, A6, c6, rfl, o1, o2, os, hE6⟩
  rw [HLA.out] at o1
  rw [HLB.out] at o2
  rw [HLS.out] at os ⊢
  rw [HLZ.out]
  have r1 := o1.pgv hm.a
  have r2 := o2.pgv hm.b
  have r3 := os.sl hm.c
  clear o1 o2 os
  obtain ⟨iA3, ic3, dA3, dc3, rfl, _, _⟩ := r1.ex
  obtain ⟨iA4, ic4, dA4, dc4, rfl, _, _⟩ := r2.ex
  replace HT := Lib.hid (hE6.blk HT.out)
  replace HX := Lib.hid (hE6.blk HX.out)
  replace HY := Lib.hid (hE6.blk HY.out)
  replace HA := Lib.hid (hE6.blk HA.out)
  replace HB := Lib.hid (hE6.blk HB.out)
  replace hSx := hSx.ext hE6
  replace hSy := hSy.ext hE6
  replace hSs := hSs.ext hE6
  replace q1 := q1.ext hE6
  replace q2 := q2.ext hE6
  replace q3 := q3.ext hE6
  replace hE := hE.trans hE6
  have hx6 := (ext_alloc w6 (.cells #[.int .i64 la.kind, .int .i64 la.level, .slice iA3 la.items.length ic3, .slice dA3 la.data.length dc3, .int .i64 la.next] 26)).trans (ext_alloc _ (.cells #[.int .i64 lb.kind, .int .i64 lb.level, .slice iA4 lb.items.length ic4, .slice dA4 lb.data.length dc4, .int .i64 lb.next] 26))
  have HC := Lib.hid (heap_alloc2_old w6 (.cells #[.int .i64 la.kind, .int .i64 la.level, .slice iA3 la.items.length ic3, .slice dA3 la.data.length dc3, .int .i64 la.next] 26) (.cells #[.int .i64 lb.kind, .int .i64 lb.level, .slice iA4 lb.items.length ic4, .slice dA4 lb.data.length dc4, .int .i64 lb.next] 26))
  have HD := Lib.hid (heap_alloc2_new w6 (.cells #[.int .i64 la.kind, .int .i64 la.level, .slice iA3 la.items.length ic3, .slice dA3 la.data.length dc3, .int .i64 la.next] 26) (.cells #[.int .i64 lb.kind, .int .i64 lb.level, .slice iA4 lb.items.length ic4, .slice dA4 lb.data.length dc4, .int .i64 lb.next] 26))
  replace HT := Lib.hid (hx6.blk HT.out)
  replace HX := Lib.hid (hx6.blk HX.out)
  replace HY := Lib.hid (hx6.blk HY.out)
  replace HA := Lib.hid (hx6.blk HA.out)
  replace HB := Lib.hid (hx6.blk HB.out)
  replace hSx := hSx.ext hx6
  replace hSy := hSy.ext hx6
  replace hSs := hSs.ext hx6
  replace q1 := q1.ext hx6
  replace q2 := q2.ext hx6
  replace q3 := q3.ext hx6
  replace r1 := r1.ext hx6
  replace r2 := r2.ext hx6
  replace r3 := r3.ext hx6
  replace hE := hE.trans hx6
  clear hE6
  have a0 := cell_of_row ((w6.alloc (.cells #[.int .i64 la.kind, .int .i64 la.level, .slice iA3 la.items.length ic3, .slice dA3 la.data.length dc3, .int .i64 la.next] 26)).alloc (.cells #[.int .i64 lb.kind, .int .i64 lb.level, .slice iA4 lb.items.length ic4, .slice dA4 lb.data.length dc4, .int .i64 lb.next] 26)) b6 0 _ _ _ HA.out
  have a1 := cell_of_row ((w6.alloc (.cells #[.int .i64 la.kind, .int .i64 la.level, .slice iA3 la.items.length ic3, .slice dA3 la.data.length dc3, .int .i64 la.next] 26)).alloc (.cells #[.int .i64 lb.kind, .int .i64 lb.level, .slice iA4 lb.items.length ic4, .slice dA4 lb.data.length dc4, .int .i64 lb.next] 26)) b6 1 _ _ _ HA.out
  have a2 := cell_of_row ((w6.alloc (.cells #[.int .i64 la.kind, .int .i64 la.level, .slice iA3 la.items.length ic3, .slice dA3 la.data.length dc3, .int .i64 la.next] 26)).alloc (.cells #[.int .i64 lb.kind, .int .i64 lb.level, .slice iA4 lb.items.length ic4, .slice dA4 lb.data.length dc4, .int .i64 lb.next] 26)) b6 2 _ _ _ HA.out
  have a3 := cell_of_row ((w6.alloc (.cells #[.int .i64 la.kind, .int .i64 la.level, .slice iA3 la.items.length ic3, .slice dA3 la.data.length dc3, .int .i64 la.next] 26)).alloc (.cells #[.int .i64 lb.kind, .int .i64 lb.level, .slice iA4 lb.items.length ic4, .slice dA4 lb.data.length dc4, .int .i64 lb.next] 26)) b6 3 _ _ _ HA.out
  have a4 := cell_of_row ((w6.alloc (.cells #[.int .i64 la.kind, .int .i64 la.level, .slice iA3 la.items.length ic3, .slice dA3 la.data.length dc3, .int .i64 la.next] 26)).alloc (.cells #[.int .i64 lb.kind, .int .i64 lb.level, .slice iA4 lb.items.length ic4, .slice dA4 lb.data.length dc4, .int .i64 lb.next] 26)) b6 4 _ _ _ HA.out
  simp only [List.getElem?_toArray, List.getElem?_cons_zero, List.getElem?_cons_succ] at a0 a1 a2 a3 a4
  go_wp2_with fail
  obtain ⟨b8, h8⟩ : ∃ b, w6.heap.size = b := ⟨_, rfl⟩
  rw [h8] at HC HD ⊢
  clear a0 a1 a2 a3 a4 hx6 h8
  refine (eqPage_any q1 r1).mono ?_
  rintro e w7 ⟨rfl, hE7⟩
  rw [eqPg_self]
  replace HT := Lib.hid (hE7.blk HT.out)
  replace HX := Lib.hid (hE7.blk HX.out)
  replace HY := Lib.hid (hE7.blk HY.out)
  replace HB := Lib.hid (hE7.blk HB.out)
  replace HD := Lib.hid (hE7.blk HD.out)
  replace hSx := hSx.ext hE7
  replace hSy := hSy.ext hE7
  replace hSs := hSs.ext hE7
  replace q2 := q2.ext hE7
  replace q3 := q3.ext hE7
  replace r2 := r2.ext hE7
  replace r3 := r3.ext hE7
  replace hE := hE.trans hE7
  clear hE7 q1 r1
  have b0 := cell_of_row w7 (b6 + 1) 0 _ _ _ HB.out
  have b1 := cell_of_row w7 (b6 + 1) 1 _ _ _ HB.out
  have b2 := cell_of_row w7 (b6 + 1) 2 _ _ _ HB.out
  have b3 := cell_of_row w7 (b6 + 1) 3 _ _ _ HB.out
  have b4 := cell_of_row w7 (b6 + 1) 4 _ _ _ HB.out
  simp only [List.getElem?_toArray, List.getElem?_cons_zero, List.getElem?_cons_succ] at b0 b1 b2 b3 b4
  have d0 := cell_of_row w7 (b8 + 1) 0 _ _ _ HD.out
  have d1 := cell_of_row w7 (b8 + 1) 1 _ _ _ HD.out
  have d2 := cell_of_row w7 (b8 + 1) 2 _ _ _ HD.out
  have d3 := cell_of_row w7 (b8 + 1) 3 _ _ _ HD.out
  have d4 := cell_of_row w7 (b8 + 1) 4 _ _ _ HD.out
  simp only [List.getElem?_toArray, List.getElem?_cons_zero, List.getElem?_cons_succ] at d0 d1 d2 d3 d4
  go_wp2_with fail
  clear b0 b1 b2 b3 b4 d0 d1 d2 d3 d4
  refine (eqPage_any q2 r2).mono ?_
  rintro e w8 ⟨rfl, hE8⟩
  rw [eqPg_self]
  replace HT := Lib.hid (hE8.blk HT.out)
  replace HX := Lib.hid (hE8.blk HX.out)
  replace HY := Lib.hid (hE8.blk HY.out)
  replace hSx := hSx.ext hE8
  replace hSy := hSy.ext hE8
  replace hSs := hSs.ext hE8
  replace q3 := q3.ext hE8
  replace r3 := r3.ext hE8
  replace hE := hE.trans hE8
  clear hE8 q2 r2
  go_wp2_with fail
  refine (eqBytes_any q3 r3).mono ?_
  rintro e w9 ⟨rfl, hE9⟩
  rw [eqB_self]
  replace HT := Lib.hid (hE9.blk HT.out)
  replace HX := Lib.hid (hE9.blk HX.out)
  replace HY := Lib.hid (hE9.blk HY.out)
  replace hSx := hSx.ext hE9
  replace hSy := hSy.ext hE9
  replace hSs := hSs.ext hE9
  replace hE := hE.trans hE9
  clear hE9 q3 r3
  have x0 := cell_of_row w9 g1 0 _ _ _ HX.out
  have x1 := cell_of_row w9 g1 1 _ _ _ HX.out
  have x2 := cell_of_row w9 g1 2 _ _ _ HX.out
  have x3 := cell_of_row w9 g1 3 _ _ _ HX.out
  have x4 := cell_of_row w9 g1 4 _ _ _ HX.out
  simp only [List.getElem?_toArray, List.getElem?_cons_zero, List.getElem?_cons_succ] at x0 x1 x2 x3 x4
  have t0 := cell_of_row w9 w.heap.size 0 _ _ _ HT.out
  have t1 := cell_of_row w9 w.heap.size 1 _ _ _ HT.out
  have t2 := cell_of_row w9 w.heap.size 2 _ _ _ HT.out
  have t3 := cell_of_row w9 w.heap.size 3 _ _ _ HT.out
  have t4 := cell_of_row w9 w.heap.size 4 _ _ _ HT.out
  have t5 := cell_of_row w9 w.heap.size 5 _ _ _ HT.out
  have t6 := cell_of_row w9 w.heap.size 6 _ _ _ HT.out
  have t7 := cell_of_row w9 w.heap.size 7 _ _ _ HT.out
  have t8 := cell_of_row w9 w.heap.size 8 _ _ _ HT.out
  have t9 := cell_of_row w9 w.heap.size 9 _ _ _ HT.out
  have t10 := cell_of_row w9 w.heap.size 10 _ _ _ HT.out
  have t11 := cell_of_row w9 w.heap.size 11 _ _ _ HT.out
  simp only [List.getElem?_toArray, List.getElem?_cons_zero, List.getElem?_cons_succ] at t0 t1 t2 t3 t4 t5 t6 t7 t8 t9 t10 t11
  go_wp2_with fail
  clear x0 x1 x2 x3 x4 t0 t1 t2 t3 t4 t5 t6 t7 t8 t9 t10 t11
  refine (keptPage_any hSx (hv1.ext hE)).mono ?_
  rintro e wa ⟨rfl, hEa⟩
  replace HT := Lib.hid (hEa.blk HT.out)
  replace HX := Lib.hid (hEa.blk HX.out)
  replace HY := Lib.hid (hEa.blk HY.out)
  replace hSy := hSy.ext hEa
  replace hSs := hSs.ext hEa
  replace hE := hE.trans hEa
  clear hEa hSx
  have y0 := cell_of_row wa g2 0 _ _ _ HY.out
  have y1 := cell_of_row wa g2 1 _ _ _ HY.out
  have y2 := cell_of_row wa g2 2 _ _ _ HY.out
  have y3 := cell_of_row wa g2 3 _ _ _ HY.out
  have y4 := cell_of_row wa g2 4 _ _ _ HY.out
  simp only [List.getElem?_toArray, List.getElem?_cons_zero, List.getElem?_cons_succ] at y0 y1 y2 y3 y4
  have t0 := cell_of_row wa w.heap.size 0 _ _ _ HT.out
  have t1 := cell_of_row wa w.heap.size 1 _ _ _ HT.out
  have t2 := cell_of_row wa w.heap.size 2 _ _ _ HT.out
  have t3 := cell_of_row wa w.heap.size 3 _ _ _ HT.out
  have t4 := cell_of_row wa w.heap.size 4 _ _ _ HT.out
  have t5 := cell_of_row wa w.heap.size 5 _ _ _ HT.out
  have t6 := cell_of_row wa w.heap.size 6 _ _ _ HT.out
  have t7 := cell_of_row wa w.heap.size 7 _ _ _ HT.out
  have t8 := cell_of_row wa w.heap.size 8 _ _ _ HT.out
  have t9 := cell_of_row wa w.heap.size 9 _ _ _ HT.out
  have t10 := cell_of_row wa w.heap.size 10 _ _ _ HT.out
  have t11 := cell_of_row wa w.heap.size 11 _ _ _ HT.out
  simp only [List.getElem?_toArray, List.getElem?_cons_zero, List.getElem?_cons_succ] at t0 t1 t2 t3 t4 t5 t6 t7 t8 t9 t10 t11
  go_wp2_with fail
  clear y0 y1 y2 y3 y4 t0 t1 t2 t3 t4 t5 t6 t7 t8 t9 t10 t11
  refine (keptPage_any hSy (hv2.ext hE)).mono ?_
  rintro e wb ⟨rfl, hEb⟩
  replace HT := Lib.hid (hEb.blk HT.out)
  replace hSs := hSs.ext hEb
  replace hE := hE.trans hEb
  clear hEb hSy
  have t0 := cell_of_row wb w.heap.size 0 _ _ _ HT.out
  have t1 := cell_of_row wb w.heap.size 1 _ _ _ HT.out
  have t2 := cell_of_row wb w.heap.size 2 _ _ _ HT.out
  have t3 := cell_of_row wb w.heap.size 3 _ _ _ HT.out
  have t4 := cell_of_row wb w.heap.size 4 _ _ _ HT.out
  have t5 := cell_of_row wb w.heap.size 5 _ _ _ HT.out
  have t6 := cell_of_row wb w.heap.size 6 _ _ _ HT.out
  have t7 := cell_of_row wb w.heap.size 7 _ _ _ HT.out
  have t8 := cell_of_row wb w.heap.size 8 _ _ _ HT.out
  have t9 := cell_of_row wb w.heap.size 9 _ _ _ HT.out
  have t10 := cell_of_row wb w.heap.size 10 _ _ _ HT.out
  have t11 := cell_of_row wb w.heap.size 11 _ _ _ HT.out
  simp only [List.getElem?_toArray, List.getElem?_cons_zero, List.getElem?_cons_succ] at t0 t1 t2 t3 t4 t5 t6 t7 t8 t9 t10 t11
  go_wp2_with fail
  clear t0 t1 t2 t3 t4 t5 t6 t7 t8 t9 t10 t11
  refine (kept_any hSs (hs.ext hE)).mono ?_
  rintro e wc ⟨rfl, hEc⟩
  replace hE := hE.trans hEc
  clear hEc
  go_wp2_with fail
  refine works_any.mono ?_
  rintro e wd ⟨rfl, hEd⟩
  have hEE := hE.trans hEd
  clear hE hEd hSs
  go_wp2
  go_ret
  exact ⟨rfl, hEE⟩
end Go.Proofs.Ytjjbckdiojleeaa
