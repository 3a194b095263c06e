/- The walk of NodeFresh. No condition but sizes. -/
import Derived.Test.YtjjbckdiojleeaaFwh
namespace Go.Proofs.Ytjjbckdiojleeaa.Q
set_option linter.unusedVariables false
open Go.RowKit Go.Proofs
set_option maxRecDepth 100000 in
set_option maxHeartbeats 4000000 in
theorem fresh_any {v u : Value} {p q : Pg} {sep : List UInt8} {toR : Bool} {x : It} {at_ : Int} {w : World} (hv : TwoV w v p q sep toR) (hx : ItV w u x) (hb1 : BS 1048576 p) (hb2 : BS 1048576 q) (hb3 : sep.length ≤ 1048576) (hb4 : BI x) :
    Calls Try.prog 12 #[v, .int .i64 at_, u] w fun e w' => e = .returned (.bool true) ∧ Ext w w' := by
  obtain ⟨iA, ic, dA, dc, jA, jc, eA, ec, sA, sc, rfl, hi, hd, hj, hc, hs, hpl, hql⟩ := hv.ex
  obtain ⟨kA, kc, vA, vc, rfl, hk_, hvv⟩ := hx.ex
  have hv1 : PgV w (.agg #[.int .i64 p.kind, .int .i64 p.level, .slice iA p.items.length ic, .slice dA p.data.length dc, .int .i64 p.next]) p := ⟨iA, ic, dA, dc, rfl, hi, hd⟩
  have hv2 : PgV w (.agg #[.int .i64 q.kind, .int .i64 q.level, .slice jA q.items.length jc, .slice eA q.data.length ec, .int .i64 q.next]) q := ⟨jA, jc, eA, ec, rfl, hj, hc⟩
  clear hv hi hd hj hc hx
  have HB1 := Lib.hid hb1
  have HB2 := Lib.hid hb2
  have HB3 := Lib.hid hb3
  have HB4 := Lib.hid hb4
  clear hb1 hb2 hb3 hb4
  go_enter Try.func12, Try.ntmps12
  go_wp2_with fail
  refine wp_cut (fun W => Ext w W ∧ W.heap[w.heap.size]? = some (.cells #[.int .i64 p.kind, .int .i64 p.level, .slice iA p.items.length ic, .slice dA p.data.length dc, .int .i64 p.next, .int .i64 q.kind, .int .i64 q.level, .slice jA q.items.length jc, .slice eA q.data.length ec, .int .i64 q.next, .slice sA sep.length sc, .bool toR] 40) ∧ W.heap[w.heap.size + 1]? = some (.cells #[.slice kA x.key.length kc, .slice vA x.val.length vc, .int .i64 x.ch, .int .i64 x.sz] 51)) ⟨(ext_alloc _ _).trans (ext_alloc _ _), heap_alloc2_old _ _ _, heap_alloc2_new _ _ _⟩ ?_
  rintro w1 ⟨hE, hb0, hb5⟩
  have HT := Lib.hid hb0
  have HI := Lib.hid hb5
  have hw1 : w.heap.size + 1 < w1.heap.size := (Array.getElem?_eq_some_iff.1 hb5).1
  clear hb0 hb5
  refine wp_region_rgt 14 Ext rel_ext (fun _ => True) [0, 1, 2, 3, 4, 5, 6, 7, 8, 9, 10, 11, 12, 13] (fun i => match i with
    | 2 => some fun V v w' => PgO w1.heap.size w' v p
    | 5 => some fun V v w' => PgO w1.heap.size w' v q
    | 8 => some fun V v w' => SOwn 5 w1.heap.size sep v w'
    | 10 => some fun V => FreshIt w1.heap.size x
    | 11 => some fun V => PgCell w1.heap.size
    | 12 => some fun V => PgCell w1.heap.size
    | 13 => some fun V => ItCell w1.heap.size
    | _ => none) (fun _ => none) (fun _ => false) (by kernel_rfl) (by kernel_rfl) (fun _ _ h he => trivial) trivial (fun W N hW hF0 hN => ?_)
  have hEW : Ext w1 W := hW
  have t0 : ∀ w', Ext w1 w' → w'.cell? ⟨w.heap.size, 0, none⟩ = some (.int .i64 p.kind) := fun w' h => cell_of_row _ _ _ _ _ _ (h.blk HT.out)
  have t1 : ∀ w', Ext w1 w' → w'.cell? ⟨w.heap.size, 1, none⟩ = some (.int .i64 p.level) := fun w' h => cell_of_row _ _ _ _ _ _ (h.blk HT.out)
  have t2 : ∀ w', Ext w1 w' → w'.cell? ⟨w.heap.size, 2, none⟩ = some (.slice iA p.items.length ic) := fun w' h => cell_of_row _ _ _ _ _ _ (h.blk HT.out)
  have t3 : ∀ w', Ext w1 w' → w'.cell? ⟨w.heap.size, 3, none⟩ = some (.slice dA p.data.length dc) := fun w' h => cell_of_row _ _ _ _ _ _ (h.blk HT.out)
  have t4 : ∀ w', Ext w1 w' → w'.cell? ⟨w.heap.size, 4, none⟩ = some (.int .i64 p.next) := fun w' h => cell_of_row _ _ _ _ _ _ (h.blk HT.out)
  have t5 : ∀ w', Ext w1 w' → w'.cell? ⟨w.heap.size, 5, none⟩ = some (.int .i64 q.kind) := fun w' h => cell_of_row _ _ _ _ _ _ (h.blk HT.out)
  have t6 : ∀ w', Ext w1 w' → w'.cell? ⟨w.heap.size, 6, none⟩ = some (.int .i64 q.level) := fun w' h => cell_of_row _ _ _ _ _ _ (h.blk HT.out)
  have t7 : ∀ w', Ext w1 w' → w'.cell? ⟨w.heap.size, 7, none⟩ = some (.slice jA q.items.length jc) := fun w' h => cell_of_row _ _ _ _ _ _ (h.blk HT.out)
  have t8 : ∀ w', Ext w1 w' → w'.cell? ⟨w.heap.size, 8, none⟩ = some (.slice eA q.data.length ec) := fun w' h => cell_of_row _ _ _ _ _ _ (h.blk HT.out)
  have t9 : ∀ w', Ext w1 w' → w'.cell? ⟨w.heap.size, 9, none⟩ = some (.int .i64 q.next) := fun w' h => cell_of_row _ _ _ _ _ _ (h.blk HT.out)
  have t10 : ∀ w', Ext w1 w' → w'.cell? ⟨w.heap.size, 10, none⟩ = some (.slice sA sep.length sc) := fun w' h => cell_of_row _ _ _ _ _ _ (h.blk HT.out)
  have t11 : ∀ w', Ext w1 w' → w'.cell? ⟨w.heap.size, 11, none⟩ = some (.bool toR) := fun w' h => cell_of_row _ _ _ _ _ _ (h.blk HT.out)
  have i0 : ∀ w', Ext w1 w' → w'.cell? ⟨w.heap.size + 1, 0, none⟩ = some (.slice kA x.key.length kc) := fun w' h => cell_of_row _ _ _ _ _ _ (h.blk HI.out)
  have i1 : ∀ w', Ext w1 w' → w'.cell? ⟨w.heap.size + 1, 1, none⟩ = some (.slice vA x.val.length vc) := fun w' h => cell_of_row _ _ _ _ _ _ (h.blk HI.out)
  have i2 : ∀ w', Ext w1 w' → w'.cell? ⟨w.heap.size + 1, 2, none⟩ = some (.int .i64 x.ch) := fun w' h => cell_of_row _ _ _ _ _ _ (h.blk HI.out)
  have i3 : ∀ w', Ext w1 w' → w'.cell? ⟨w.heap.size + 1, 3, none⟩ = some (.int .i64 x.sz) := fun w' h => cell_of_row _ _ _ _ _ _ (h.blk HI.out)
  repeat (first | (apply wpR_one; (case ho => (simp only [List.getElem?_toArray, List.getElem?_cons_succ, List.getElem?_cons_zero]; try exact rfl)); (case hw => rfl); (case hl => rfl); (case hsp => rfl); (case he => rfl); (case hv => (intro w' hw'; (try (have hw2 := Ext.trans hEW hw')); (try (have hw3 := Exc.trans hEW hw')); (try (have hw4 := Exk.trans hEW hw')); (try (have hw5 := Mrk.trans hEW hw')); go_simp; exact rfl)); (case hw0 => (first | exact Below.refl _ _ | exact Exc.of_ext (Below.refl _ _) | exact Exk.of_ext (Below.refl _ _) | exact Mrk.of_ext (Below.refl _ _))); simp only [Act.put, List.setIfInBounds_toArray, List.set_cons_succ, List.set_cons_zero]) | (apply wpR_early; (case ho => (simp only [List.getElem?_toArray, List.getElem?_cons_succ, List.getElem?_cons_zero]; try exact rfl)); (case hw => rfl); (case hl => rfl); (case hsp => rfl); (case he => rfl); (case hv => (intro w' hw'; (try have hw2 := Ext.trans hEW hw'); go_simp; exact rfl)); simp only [Act.put, List.setIfInBounds_toArray, List.set_cons_succ, List.set_cons_zero]) | (apply wpR_pass; (case ho => (simp only [List.getElem?_toArray, List.getElem?_cons_succ, List.getElem?_cons_zero]; try exact rfl)); (case hw => rfl); (case hl => rfl); simp only [Act.put, List.setIfInBounds_toArray, List.set_cons_succ, List.set_cons_zero]))
  refine wpR_alloc (by ((simp only [List.getElem?_toArray, List.getElem?_cons_succ, List.getElem?_cons_zero]; try exact rfl))) _ rfl rfl rfl (fun V v => PgO.lastsE _ _ _) (fun V V' h => rfl) (fun w' hw' hK => ?_) (fun v hv => ?_)
  · have HX := Lib.hid (hEW.trans hw')
    clear hK
    unfold opAt; go_simp; refine upAt_enter ?_
    refine (copyPage_any (hv1.ext (hE.trans HX.out))).mono ?_
    rintro e w2 ⟨v', rfl, hO, hE2⟩
    exact ⟨_, rfl, hE2, hO.mono HX.out.size, fun _ g hg => pg_row hO hg⟩
  obtain ⟨xA0, xc0, xD0, xd0, rfl⟩ : ∃ a b c d, v = .agg #[.int .i64 p.kind, .int .i64 p.level, .slice a p.items.length b, .slice c p.data.length d, .int .i64 p.next] := by
    obtain ⟨_, _, _, hO⟩ := hv
    obtain ⟨a, b, c, d, ps, e, _⟩ := hO.ex
    exact ⟨a, b, c, d, e⟩
  clear hv
  simp only [Act.put, List.setIfInBounds_toArray, List.set_cons_succ, List.set_cons_zero]
  repeat (first | (apply wpR_one; (case ho => (simp only [List.getElem?_toArray, List.getElem?_cons_succ, List.getElem?_cons_zero]; try exact rfl)); (case hw => rfl); (case hl => rfl); (case hsp => rfl); (case he => rfl); (case hv => (intro w' hw'; (try (have hw2 := Ext.trans hEW hw')); (try (have hw3 := Exc.trans hEW hw')); (try (have hw4 := Exk.trans hEW hw')); (try (have hw5 := Mrk.trans hEW hw')); go_simp; exact rfl)); (case hw0 => (first | exact Below.refl _ _ | exact Exc.of_ext (Below.refl _ _) | exact Exk.of_ext (Below.refl _ _) | exact Mrk.of_ext (Below.refl _ _))); simp only [Act.put, List.setIfInBounds_toArray, List.set_cons_succ, List.set_cons_zero]) | (apply wpR_early; (case ho => (simp only [List.getElem?_toArray, List.getElem?_cons_succ, List.getElem?_cons_zero]; try exact rfl)); (case hw => rfl); (case hl => rfl); (case hsp => rfl); (case he => rfl); (case hv => (intro w' hw'; (try have hw2 := Ext.trans hEW hw'); go_simp; exact rfl)); simp only [Act.put, List.setIfInBounds_toArray, List.set_cons_succ, List.set_cons_zero]) | (apply wpR_pass; (case ho => (simp only [List.getElem?_toArray, List.getElem?_cons_succ, List.getElem?_cons_zero]; try exact rfl)); (case hw => rfl); (case hl => rfl); simp only [Act.put, List.setIfInBounds_toArray, List.set_cons_succ, List.set_cons_zero]))
  refine wpR_alloc (by ((simp only [List.getElem?_toArray, List.getElem?_cons_succ, List.getElem?_cons_zero]; try exact rfl))) _ rfl rfl rfl (fun V v => PgO.lastsE _ _ _) (fun V V' h => rfl) (fun w' hw' hK => ?_) (fun v hv => ?_)
  · have HX := Lib.hid (hEW.trans hw')
    clear hK
    unfold opAt; go_simp; refine upAt_enter ?_
    refine (copyPage_any (hv2.ext (hE.trans HX.out))).mono ?_
    rintro e w2 ⟨v', rfl, hO, hE2⟩
    exact ⟨_, rfl, hE2, hO.mono HX.out.size, fun _ g hg => pg_row hO hg⟩
  obtain ⟨xA1, xc1, xD1, xd1, rfl⟩ : ∃ a b c d, v = .agg #[.int .i64 q.kind, .int .i64 q.level, .slice a q.items.length b, .slice c q.data.length d, .int .i64 q.next] := by
    obtain ⟨_, _, _, hO⟩ := hv
    obtain ⟨a, b, c, d, ps, e, _⟩ := hO.ex
    exact ⟨a, b, c, d, e⟩
  clear hv
  simp only [Act.put, List.setIfInBounds_toArray, List.set_cons_succ, List.set_cons_zero]
  repeat (first | (apply wpR_one; (case ho => (simp only [List.getElem?_toArray, List.getElem?_cons_succ, List.getElem?_cons_zero]; try exact rfl)); (case hw => rfl); (case hl => rfl); (case hsp => rfl); (case he => rfl); (case hv => (intro w' hw'; (try (have hw2 := Ext.trans hEW hw')); (try (have hw3 := Exc.trans hEW hw')); (try (have hw4 := Exk.trans hEW hw')); (try (have hw5 := Mrk.trans hEW hw')); go_simp; exact rfl)); (case hw0 => (first | exact Below.refl _ _ | exact Exc.of_ext (Below.refl _ _) | exact Exk.of_ext (Below.refl _ _) | exact Mrk.of_ext (Below.refl _ _))); simp only [Act.put, List.setIfInBounds_toArray, List.set_cons_succ, List.set_cons_zero]) | (apply wpR_early; (case ho => (simp only [List.getElem?_toArray, List.getElem?_cons_succ, List.getElem?_cons_zero]; try exact rfl)); (case hw => rfl); (case hl => rfl); (case hsp => rfl); (case he => rfl); (case hv => (intro w' hw'; (try have hw2 := Ext.trans hEW hw'); go_simp; exact rfl)); simp only [Act.put, List.setIfInBounds_toArray, List.set_cons_succ, List.set_cons_zero]) | (apply wpR_pass; (case ho => (simp only [List.getElem?_toArray, List.getElem?_cons_succ, List.getElem?_cons_zero]; try exact rfl)); (case hw => rfl); (case hl => rfl); simp only [Act.put, List.setIfInBounds_toArray, List.set_cons_succ, List.set_cons_zero]))
  refine wpR_alloc (by ((simp only [List.getElem?_toArray, List.getElem?_cons_succ, List.getElem?_cons_zero]; try exact rfl))) _ rfl rfl rfl (fun V v => SOwn.lastsE _ _ _) (fun V V' h => rfl) (fun w' hw' hK => ?_) (fun v hv => ?_)
  · have HX := Lib.hid (hEW.trans hw')
    clear hK
    unfold opAt; go_simp; refine upAt_enter ?_
    refine (copyBytes_any (hs.ext (hE.trans HX.out))).mono ?_
    rintro e w2 ⟨A9, c9, rfl, hO, hE2⟩
    exact ⟨_, rfl, hE2, ⟨A9, c9, rfl, hO.mono HX.out.size⟩, fun _ g hg => by cases hg⟩
  obtain ⟨xA2, xc2, rfl⟩ : ∃ A c, v = .slice A sep.length c := by
    obtain ⟨_, _, _, A, c, h, _⟩ := hv
    exact ⟨A, c, h⟩
  clear hv
  simp only [Act.put, List.setIfInBounds_toArray, List.set_cons_succ, List.set_cons_zero]
  repeat (first | (apply wpR_one; (case ho => (simp only [List.getElem?_toArray, List.getElem?_cons_succ, List.getElem?_cons_zero]; try exact rfl)); (case hw => rfl); (case hl => rfl); (case hsp => rfl); (case he => rfl); (case hv => (intro w' hw'; (try (have hw2 := Ext.trans hEW hw')); (try (have hw3 := Exc.trans hEW hw')); (try (have hw4 := Exk.trans hEW hw')); (try (have hw5 := Mrk.trans hEW hw')); go_simp; exact rfl)); (case hw0 => (first | exact Below.refl _ _ | exact Exc.of_ext (Below.refl _ _) | exact Exk.of_ext (Below.refl _ _) | exact Mrk.of_ext (Below.refl _ _))); simp only [Act.put, List.setIfInBounds_toArray, List.set_cons_succ, List.set_cons_zero]) | (apply wpR_early; (case ho => (simp only [List.getElem?_toArray, List.getElem?_cons_succ, List.getElem?_cons_zero]; try exact rfl)); (case hw => rfl); (case hl => rfl); (case hsp => rfl); (case he => rfl); (case hv => (intro w' hw'; (try have hw2 := Ext.trans hEW hw'); go_simp; exact rfl)); simp only [Act.put, List.setIfInBounds_toArray, List.set_cons_succ, List.set_cons_zero]) | (apply wpR_pass; (case ho => (simp only [List.getElem?_toArray, List.getElem?_cons_succ, List.getElem?_cons_zero]; try exact rfl)); (case hw => rfl); (case hl => rfl); simp only [Act.put, List.setIfInBounds_toArray, List.set_cons_succ, List.set_cons_zero]))
  refine wpR_alloc (by ((simp only [List.getElem?_toArray, List.getElem?_cons_succ, List.getElem?_cons_zero]; try exact rfl))) _ rfl rfl rfl (fun V v => FreshIt.lastsE _ _ _) (fun V V' h => rfl) (fun w' hw' hK => ?_) (fun v hv => ?_)
  · have HX := Lib.hid (hEW.trans hw')
    clear hK
    unfold opAt; go_simp; refine upAt_enter ?_
    refine (copyItem_any (hk_.ext (hE.trans HX.out)) (hvv.ext (hE.trans HX.out))).mono ?_
    rintro e w2 ⟨A1, c1, A2, c2, rfl, o1, o2, hns, hE2⟩
    exact ⟨_, rfl, hE2, ⟨A1, c1, A2, c2, rfl, o1.mono HX.out.size, o2.mono HX.out.size, hns⟩, fun _ g hg => by cases hg⟩
  obtain ⟨zA, zc, yA, yc, rfl⟩ : ∃ A c A' c', v = .agg #[.slice A x.key.length c, .slice A' x.val.length c', .int .i64 x.ch, .int .i64 x.sz] := by
    obtain ⟨_, _, _, A, c, A', c', h, _⟩ := hv
    exact ⟨A, c, A', c', h⟩
  clear hv
  simp only [Act.put, List.setIfInBounds_toArray, List.set_cons_succ, List.set_cons_zero]
  repeat (first | (apply wpR_one; (case ho => (simp only [List.getElem?_toArray, List.getElem?_cons_succ, List.getElem?_cons_zero]; try exact rfl)); (case hw => rfl); (case hl => rfl); (case hsp => rfl); (case he => rfl); (case hv => (intro w' hw'; (try (have hw2 := Ext.trans hEW hw')); (try (have hw3 := Exc.trans hEW hw')); (try (have hw4 := Exk.trans hEW hw')); (try (have hw5 := Mrk.trans hEW hw')); go_simp; exact rfl)); (case hw0 => (first | exact Below.refl _ _ | exact Exc.of_ext (Below.refl _ _) | exact Exk.of_ext (Below.refl _ _) | exact Mrk.of_ext (Below.refl _ _))); simp only [Act.put, List.setIfInBounds_toArray, List.set_cons_succ, List.set_cons_zero]) | (apply wpR_early; (case ho => (simp only [List.getElem?_toArray, List.getElem?_cons_succ, List.getElem?_cons_zero]; try exact rfl)); (case hw => rfl); (case hl => rfl); (case hsp => rfl); (case he => rfl); (case hv => (intro w' hw'; (try have hw2 := Ext.trans hEW hw'); go_simp; exact rfl)); simp only [Act.put, List.setIfInBounds_toArray, List.set_cons_succ, List.set_cons_zero]) | (apply wpR_pass; (case ho => (simp only [List.getElem?_toArray, List.getElem?_cons_succ, List.getElem?_cons_zero]; try exact rfl)); (case hw => rfl); (case hl => rfl); simp only [Act.put, List.setIfInBounds_toArray, List.set_cons_succ, List.set_cons_zero]))
  refine wpR_alloc (by ((simp only [List.getElem?_toArray, List.getElem?_cons_succ, List.getElem?_cons_zero]; try exact rfl))) _ rfl rfl rfl (fun V v => PgCell.lastsE _ _) (fun V V' h => rfl) (fun w' hw' hK => ?_) (fun v hv => ?_)
  · have hXs := (hEW.trans hw').size
    unfold opAt
    go_simp
    exact upAt_value ⟨ext_alloc _ _, ⟨_, rfl, hXs, _, heap_alloc_new _ _, rfl⟩, fun _ g hg => by simp only [ptrBlk', Option.some.injEq] at hg; subst hg; simp⟩
  obtain ⟨gx, rfl⟩ : ∃ g, v = .pointer (some ⟨g, 0, none⟩) := by
    obtain ⟨_, _, _, g, e, _⟩ := hv
    exact ⟨g, e⟩
  clear hv
  simp only [Act.put, List.setIfInBounds_toArray, List.set_cons_succ, List.set_cons_zero]
  repeat (first | (apply wpR_one; (case ho => (simp only [List.getElem?_toArray, List.getElem?_cons_succ, List.getElem?_cons_zero]; try exact rfl)); (case hw => rfl); (case hl => rfl); (case hsp => rfl); (case he => rfl); (case hv => (intro w' hw'; (try (have hw2 := Ext.trans hEW hw')); (try (have hw3 := Exc.trans hEW hw')); (try (have hw4 := Exk.trans hEW hw')); (try (have hw5 := Mrk.trans hEW hw')); go_simp; exact rfl)); (case hw0 => (first | exact Below.refl _ _ | exact Exc.of_ext (Below.refl _ _) | exact Exk.of_ext (Below.refl _ _) | exact Mrk.of_ext (Below.refl _ _))); simp only [Act.put, List.setIfInBounds_toArray, List.set_cons_succ, List.set_cons_zero]) | (apply wpR_early; (case ho => (simp only [List.getElem?_toArray, List.getElem?_cons_succ, List.getElem?_cons_zero]; try exact rfl)); (case hw => rfl); (case hl => rfl); (case hsp => rfl); (case he => rfl); (case hv => (intro w' hw'; (try have hw2 := Ext.trans hEW hw'); go_simp; exact rfl)); simp only [Act.put, List.setIfInBounds_toArray, List.set_cons_succ, List.set_cons_zero]) | (apply wpR_pass; (case ho => (simp only [List.getElem?_toArray, List.getElem?_cons_succ, List.getElem?_cons_zero]; try exact rfl)); (case hw => rfl); (case hl => rfl); simp only [Act.put, List.setIfInBounds_toArray, List.set_cons_succ, List.set_cons_zero]))
  refine wpR_alloc (by ((simp only [List.getElem?_toArray, List.getElem?_cons_succ, List.getElem?_cons_zero]; try exact rfl))) _ rfl rfl rfl (fun V v => PgCell.lastsE _ _) (fun V V' h => rfl) (fun w' hw' hK => ?_) (fun v hv => ?_)
  · have hXs := (hEW.trans hw').size
    unfold opAt
    go_simp
    exact upAt_value ⟨ext_alloc _ _, ⟨_, rfl, hXs, _, heap_alloc_new _ _, rfl⟩, fun _ g hg => by simp only [ptrBlk', Option.some.injEq] at hg; subst hg; simp⟩
  obtain ⟨gy, rfl⟩ : ∃ g, v = .pointer (some ⟨g, 0, none⟩) := by
    obtain ⟨_, _, _, g, e, _⟩ := hv
    exact ⟨g, e⟩
  clear hv
  simp only [Act.put, List.setIfInBounds_toArray, List.set_cons_succ, List.set_cons_zero]
  repeat (first | (apply wpR_one; (case ho => (simp only [List.getElem?_toArray, List.getElem?_cons_succ, List.getElem?_cons_zero]; try exact rfl)); (case hw => rfl); (case hl => rfl); (case hsp => rfl); (case he => rfl); (case hv => (intro w' hw'; (try (have hw2 := Ext.trans hEW hw')); (try (have hw3 := Exc.trans hEW hw')); (try (have hw4 := Exk.trans hEW hw')); (try (have hw5 := Mrk.trans hEW hw')); go_simp; exact rfl)); (case hw0 => (first | exact Below.refl _ _ | exact Exc.of_ext (Below.refl _ _) | exact Exk.of_ext (Below.refl _ _) | exact Mrk.of_ext (Below.refl _ _))); simp only [Act.put, List.setIfInBounds_toArray, List.set_cons_succ, List.set_cons_zero]) | (apply wpR_early; (case ho => (simp only [List.getElem?_toArray, List.getElem?_cons_succ, List.getElem?_cons_zero]; try exact rfl)); (case hw => rfl); (case hl => rfl); (case hsp => rfl); (case he => rfl); (case hv => (intro w' hw'; (try have hw2 := Ext.trans hEW hw'); go_simp; exact rfl)); simp only [Act.put, List.setIfInBounds_toArray, List.set_cons_succ, List.set_cons_zero]) | (apply wpR_pass; (case ho => (simp only [List.getElem?_toArray, List.getElem?_cons_succ, List.getElem?_cons_zero]; try exact rfl)); (case hw => rfl); (case hl => rfl); simp only [Act.put, List.setIfInBounds_toArray, List.set_cons_succ, List.set_cons_zero]))
  refine wpR_alloc (by ((simp only [List.getElem?_toArray, List.getElem?_cons_succ, List.getElem?_cons_zero]; try exact rfl))) _ rfl rfl rfl (fun V v => ItCell.lasts _ _) (fun V V' h => rfl) (fun w' hw' hK => ?_) (fun v hv => ?_)
  · have hXs := (hEW.trans hw').size
    unfold opAt
    go_simp
    exact upAt_value ⟨ext_alloc _ _, ⟨_, rfl, hXs, _, heap_alloc_new _ _, rfl⟩, fun _ g hg => by simp only [ptrBlk', Option.some.injEq] at hg; subst hg; simp⟩
  obtain ⟨gz, rfl⟩ : ∃ g, v = .pointer (some ⟨g, 0, none⟩) := by
    obtain ⟨_, _, _, g, e, _⟩ := hv
    exact ⟨g, e⟩
  clear hv
  simp only [Act.put, List.setIfInBounds_toArray, List.set_cons_succ, List.set_cons_zero]
  apply wpR_nil
  apply hN
  intro w2 hE' hK hF hP
  have hXW := hEW.trans hE'
  have o1 : PgO w1.heap.size w2 _ p := (hK 2).2
  have o2 : PgO w1.heap.size w2 _ q := (hK 5).2
  have o3 : SOwn 5 w1.heap.size sep _ w2 := (hK 8).2
  have o4 : FreshIt w1.heap.size x _ w2 := (hK 10).2
  have c1 : PgCell w1.heap.size _ w2 := (hK 11).2
  have c2 : PgCell w1.heap.size _ w2 := (hK 12).2
  have c3 : ItCell w1.heap.size _ w2 := (hK 13).2
  have n1 : gx ≠ gy := fun e => hP.2 11 12 (by decide) (by kernel_rfl) (by kernel_rfl) gx rfl (by rw [e]; rfl)
  have n2 : ∀ g, ptrBlk' (.agg #[.int .i64 p.kind, .int .i64 p.level, .slice xA0 p.items.length xc0, .slice xD0 p.data.length xd0, .int .i64 p.next]) = some g → g ≠ gz := fun g hg e => hP.2 2 13 (by decide) (by kernel_rfl) (by kernel_rfl) g hg (by rw [e]; rfl)
  have n3 : ∀ g, ptrBlk' (.agg #[.int .i64 q.kind, .int .i64 q.level, .slice xA1 q.items.length xc1, .slice xD1 q.data.length xd1, .int .i64 q.next]) = some g → g ≠ gz := fun g hg e => hP.2 5 13 (by decide) (by kernel_rfl) (by kernel_rfl) g hg (by rw [e]; rfl)
  obtain ⟨_, e1, hgx, csx, bX, szX⟩ := c1
  obtain rfl := ptr_inj (show Value.pointer (some ⟨gx, 0, none⟩) = _ from e1)
  obtain ⟨_, e2, hgy, csy, bY, szY⟩ := c2
  obtain rfl := ptr_inj (show Value.pointer (some ⟨gy, 0, none⟩) = _ from e2)
  obtain ⟨_, e3, hgz, csz, bZ, szZ⟩ := c3
  obtain rfl := ptr_inj (show Value.pointer (some ⟨gz, 0, none⟩) = _ from e3)
  have oT := HT.out
  have bT := hXW.blk HT.out
  have bI := hXW.blk HI.out
  have hEw := hE.trans hXW
  have z1 : gx ≠ gz := fun e => by rw [e, bZ] at bX; injection bX with bX; injection bX with _ bX; exact absurd bX (by decide)
  have z2 : gy ≠ gz := fun e => by rw [e, bZ] at bY; injection bY with bY; injection bY with _ bY; exact absurd bY (by decide)
  have HO1 := Lib.hid o1
  have HO2 := Lib.hid o2
  have HO3 := Lib.hid o3
  have HO4 := Lib.hid o4
  clear hK hN hF hP hF0 hE' hW hXW hEW o1 o2 o3 o4 e1 e2 e3 t0 t1 t2 t3 t4 t5 t6 t7 t8 t9 t10 t11 i0 i1 i2 i3
  simp only [List.drop_succ_cons, List.drop_zero]
  refine wpList_store_box rfl 26 _ _ rfl gx _ rfl rfl 26 _ bX (by kernel_rfl) szX (by simp [Value.oneCell']) (fun w3 b3 hg3 => ?_)
  have bY3 := blk_other bY hg3 (Ne.symm n1)
  have bZ3 := blk_other bZ hg3 (Ne.symm z1)
  replace bT := blk_other bT hg3 (by omega)
  replace bI := blk_other bI hg3 (by omega)
  have P1 := PgO.stPg HO1.out hg3 bX
  have P2 := PgO.stPg HO2.out hg3 bX
  have P3 := SOwn.st HO3.out hg3 bX (by decide)
  have P4 := FreshIt.st HO4.out hg3 bX (by decide)
  replace hEw := ext_only hEw hg3 (by omega)
  refine wpList_store_box rfl 26 _ _ rfl gy _ rfl rfl 26 _ bY3 (by kernel_rfl) szY (by simp [Value.oneCell']) (fun w4 b4 hg4 => ?_)
  have bX4 := blk_other b3 hg4 n1
  have bZ4 := blk_other bZ3 hg4 (Ne.symm z2)
  replace bT := blk_other bT hg4 (by omega)
  replace bI := blk_other bI hg4 (by omega)
  replace P1 := PgO.stPg P1 hg4 bY3
  replace P2 := PgO.stPg P2 hg4 bY3
  replace P3 := SOwn.st P3 hg4 bY3 (by decide)
  replace P4 := FreshIt.st P4 hg4 bY3 (by decide)
  replace hEw := ext_only hEw hg4 (by omega)
  replace n2 := fun e => n2 gz e rfl
  replace n3 := fun e => n3 gz e rfl
  have HP1 := Lib.hid P1
  have HP2 := Lib.hid P2
  have HP3 := Lib.hid P3
  have HP4 := Lib.hid P4
  have N2 := Lib.hid n2
  have N3 := Lib.hid n3
  clear bX bY bZ bY3 bZ3 b3 P1 P2 P3 P4 n2 n3 HO1 HO2 HO3 HO4 HT HI oT
  go_wp2_with (refine wpList_store_box rfl 51 _ _ rfl gz _ rfl rfl 51 _ bZ4 (by kernel_rfl) szZ (by simp [Value.oneCell']) (fun w5 b5 hg5 => ?_))
  have hfr : FrS w w5 (.cells #[.int .i64 p.kind, .int .i64 p.level, .slice iA p.items.length ic, .slice dA p.data.length dc, .int .i64 p.next, .int .i64 q.kind, .int .i64 q.level, .slice jA q.items.length jc, .slice eA q.data.length ec, .int .i64 q.next, .slice sA sep.length sc, .bool toR] 40) (.cells #[.slice kA x.key.length kc, .slice vA x.val.length vc, .int .i64 x.ch, .int .i64 x.sz] 51) p q sep x (.agg #[.int .i64 p.kind, .int .i64 p.level, .slice xA0 p.items.length xc0, .slice xD0 p.data.length xd0, .int .i64 p.next]) (.agg #[.int .i64 q.kind, .int .i64 q.level, .slice xA1 q.items.length xc1, .slice xD1 q.data.length xd1, .int .i64 q.next]) (.agg #[.slice zA x.key.length zc, .slice yA x.val.length yc, .int .i64 x.ch, .int .i64 x.sz]) xA2 xc2 gx gy gz := by
    refine ⟨ext_only hEw hg5 (by omega), blk_other bT hg5 (by omega), blk_other bI hg5 (by omega), (PgO.stIt HP1.out hg5 bZ4 N2.out).mono (by omega), (PgO.stIt HP2.out hg5 bZ4 N3.out).mono (by omega), ?_, ?_, ⟨_, rfl, blk_other bX4 hg5 z1⟩, ⟨_, rfl, blk_other b4 hg5 z2⟩, ⟨_, rfl, b5⟩⟩
    · exact ((SOwn.st HP3.out hg5 bZ4 (by decide)).own).mono (by omega)
    · obtain ⟨A1, c1, A2, c2, e, o1, o2, o3⟩ := FreshIt.st HP4.out hg5 bZ4 (by decide)
      exact ⟨A1, c1, A2, c2, e, o1.mono (by omega), o2.mono (by omega), o3⟩
  refine wp_cut (fun W => FrS w W (.cells #[.int .i64 p.kind, .int .i64 p.level, .slice iA p.items.length ic, .slice dA p.data.length dc, .int .i64 p.next, .int .i64 q.kind, .int .i64 q.level, .slice jA q.items.length jc, .slice eA q.data.length ec, .int .i64 q.next, .slice sA sep.length sc, .bool toR] 40) (.cells #[.slice kA x.key.length kc, .slice vA x.val.length vc, .int .i64 x.ch, .int .i64 x.sz] 51) p q sep x (.agg #[.int .i64 p.kind, .int .i64 p.level, .slice xA0 p.items.length xc0, .slice xD0 p.data.length xd0, .int .i64 p.next]) (.agg #[.int .i64 q.kind, .int .i64 q.level, .slice xA1 q.items.length xc1, .slice xD1 q.data.length xd1, .int .i64 q.next]) (.agg #[.slice zA x.key.length zc, .slice yA x.val.length yc, .int .i64 x.ch, .int .i64 x.sz]) xA2 xc2 gx gy gz) hfr ?_
  clear hfr hEw bT bI HP1 HP2 HP3 HP4 N2 N3 b4 b5 hg3 hg4 hg5 bX4 bZ4 szX szY szZ hgx hgy hgz z1 z2 n1 hE hw1
  clear w1 w2 w3 w4 w5
  rintro w6 fr
  have FR := Lib.hid fr
  clear fr
  have hfx : w6.heap[gx]? = some (.cells #[.int .i64 p.kind, .int .i64 p.level, .slice xA0 p.items.length xc0, .slice xD0 p.data.length xd0, .int .i64 p.next] 26) := by obtain ⟨cs, e, h⟩ := FR.out.bx; injection e with e; rw [e]; exact h
  have hfy : w6.heap[gy]? = some (.cells #[.int .i64 q.kind, .int .i64 q.level, .slice xA1 q.items.length xc1, .slice xD1 q.data.length xd1, .int .i64 q.next] 26) := by obtain ⟨cs, e, h⟩ := FR.out.by_; injection e with e; rw [e]; exact h
  have hfz : w6.heap[gz]? = some (.cells #[.slice zA x.key.length zc, .slice yA x.val.length yc, .int .i64 x.ch, .int .i64 x.sz] 51) := by obtain ⟨cs, e, h⟩ := FR.out.bz; injection e with e; rw [e]; exact h
  have HX := Lib.hid hfx
  have HY := Lib.hid hfy
  have HZ := Lib.hid hfz
  have HTT := Lib.hid FR.out.bt
  have hsp := HB1.out.small (by decide)
  have hsq := HB2.out.small (by decide)
  have HPX := Lib.hid (FR.out.px.pgv hsp)
  have HPY := Lib.hid (FR.out.py.pgv hsq)
  have hss : sep.length ≤ 140737488355328 := by have := HB3.out; omega
  have HPS := Lib.hid (FR.out.ps_.sl hss)
  have hpz : ItV w6 (.agg #[.slice zA x.key.length zc, .slice yA x.val.length yc, .int .i64 x.ch, .int .i64 x.sz]) x := by
    obtain ⟨A1, c1, A2, c2, e, o1, o2, _⟩ := FR.out.pz
    have h1 := HB4.out.k
    have h2 := HB4.out.v
    exact ⟨A1, c1, A2, c2, e, o1.sl (by omega), o2.sl (by omega)⟩
  have HPZ := Lib.hid hpz
  have hlend : lendOk p q toR = true → p.items.length + q.items.length ≤ 2199023255552 := fun _ => by have := HB1.out.n; have := HB2.out.n; omega
  have HLE := Lib.hid hlend
  obtain ⟨i1, hi1, hy0, hy1, hy2⟩ := info_parts infoSlB
  obtain ⟨i2, hi2, hz0, hz1, hz2⟩ := info_parts infoPg
  clear hfx hfy hfz hsp hsq hss hpz hlend
  go_loopw [11, 12, 13] (fun l g ii wr => ∃ (k : Nat) (X : List (Value × Pg)) (Y : List (Value × List UInt8)) (An : Option Addr) (cn : Nat) (Ap : Option Addr) (cp ny nx : Nat), k ≤ 2 ∧ Hid (ny = 2 * k ∧ nx = 8 * k ∧ Y.length = ny ∧ X.length = nx) ∧ ii = .int .i64 k ∧ l = .slice An ny cn ∧ g = .slice Ap nx cp ∧ FrL w6 wr X Y An ny cn Ap nx cp) (fun _ _ ii _ => 2 - (intOf ii).toNat)
  case atStart => exact ⟨0, [], [], none, 0, none, 0, 0, 0, by omega, Lib.hid ⟨rfl, rfl, rfl, rfl⟩, rfl, rfl, rfl, FrL.start w6⟩
  case round =>
    obtain ⟨k, X, Y, An, cn, Ap, cp, ny, nx, hk, HN, rfl, rfl, rfl, hL⟩ := hrel
    have hE0 := hL.e
    have HL := Lib.hid hL
    clear hL
    by_cases hlt : k < 2
    · have hki : (k : Int) < 2 := by omega
      have cx0 := cell_of_row wr gx 0 _ _ _ (hE0.blk HX.out)
      have cx1 := cell_of_row wr gx 1 _ _ _ (hE0.blk HX.out)
      have cx2 := cell_of_row wr gx 2 _ _ _ (hE0.blk HX.out)
      have cx3 := cell_of_row wr gx 3 _ _ _ (hE0.blk HX.out)
      have cx4 := cell_of_row wr gx 4 _ _ _ (hE0.blk HX.out)
      simp only [List.getElem?_toArray, List.getElem?_cons_zero, List.getElem?_cons_succ] at cx0 cx1 cx2 cx3 cx4
      have cz0 := cell_of_row wr gz 0 _ _ _ (hE0.blk HZ.out)
      have cz1 := cell_of_row wr gz 1 _ _ _ (hE0.blk HZ.out)
      have cz2 := cell_of_row wr gz 2 _ _ _ (hE0.blk HZ.out)
      have cz3 := cell_of_row wr gz 3 _ _ _ (hE0.blk HZ.out)
      simp only [List.getElem?_toArray, List.getElem?_cons_zero, List.getElem?_cons_succ] at cz0 cz1 cz2 cz3
      have L0 := HL.out.lot
      go_wp2_with fail
      refine (ninsert_any (p := p) (x := x) (HPX.out.ext hE0) (HPZ.out.ext hE0)).mono ?_
      rintro e wA ⟨vA, rfl, oA, hEA⟩
      have hjA := L0.join hEA (Lot.of_pgo oA) hE0.size
      obtain ⟨iA, icA, dA, dcA, psA, rfl, _⟩ := oA.ex
      clear oA
      clear cx0 cx1 cx2 cx3 cx4 cz0 cz1 cz2 cz3
      have bbA := heap_alloc_new wA (.cells #[.int .i64 ((insB p at_ x).1).kind, .int .i64 ((insB p at_ x).1).level, .slice iA ((insB p at_ x).1).items.length icA, .slice dA ((insB p at_ x).1).data.length dcA, .int .i64 ((insB p at_ x).1).next] 26)
      have hXA := (hE0.trans hEA).trans (ext_alloc wA (.cells #[.int .i64 ((insB p at_ x).1).kind, .int .i64 ((insB p at_ x).1).level, .slice iA ((insB p at_ x).1).items.length icA, .slice dA ((insB p at_ x).1).data.length dcA, .int .i64 ((insB p at_ x).1).next] 26))
      have BBA := Lib.hid bbA
      clear bbA
      have HJA := Lib.hid (hjA.ext (ext_alloc wA (.cells #[.int .i64 ((insB p at_ x).1).kind, .int .i64 ((insB p at_ x).1).level, .slice iA ((insB p at_ x).1).items.length icA, .slice dA ((insB p at_ x).1).data.length dcA, .int .i64 ((insB p at_ x).1).next] 26)))
      clear hjA L0
      have cx0 := cell_of_row (wA.alloc (.cells #[.int .i64 ((insB p at_ x).1).kind, .int .i64 ((insB p at_ x).1).level, .slice iA ((insB p at_ x).1).items.length icA, .slice dA ((insB p at_ x).1).data.length dcA, .int .i64 ((insB p at_ x).1).next] 26)) gx 0 _ _ _ (hXA.blk HX.out)
      have cx1 := cell_of_row (wA.alloc (.cells #[.int .i64 ((insB p at_ x).1).kind, .int .i64 ((insB p at_ x).1).level, .slice iA ((insB p at_ x).1).items.length icA, .slice dA ((insB p at_ x).1).data.length dcA, .int .i64 ((insB p at_ x).1).next] 26)) gx 1 _ _ _ (hXA.blk HX.out)
      have cx2 := cell_of_row (wA.alloc (.cells #[.int .i64 ((insB p at_ x).1).kind, .int .i64 ((insB p at_ x).1).level, .slice iA ((insB p at_ x).1).items.length icA, .slice dA ((insB p at_ x).1).data.length dcA, .int .i64 ((insB p at_ x).1).next] 26)) gx 2 _ _ _ (hXA.blk HX.out)
      have cx3 := cell_of_row (wA.alloc (.cells #[.int .i64 ((insB p at_ x).1).kind, .int .i64 ((insB p at_ x).1).level, .slice iA ((insB p at_ x).1).items.length icA, .slice dA ((insB p at_ x).1).data.length dcA, .int .i64 ((insB p at_ x).1).next] 26)) gx 3 _ _ _ (hXA.blk HX.out)
      have cx4 := cell_of_row (wA.alloc (.cells #[.int .i64 ((insB p at_ x).1).kind, .int .i64 ((insB p at_ x).1).level, .slice iA ((insB p at_ x).1).items.length icA, .slice dA ((insB p at_ x).1).data.length dcA, .int .i64 ((insB p at_ x).1).next] 26)) gx 4 _ _ _ (hXA.blk HX.out)
      simp only [List.getElem?_toArray, List.getElem?_cons_zero, List.getElem?_cons_succ] at cx0 cx1 cx2 cx3 cx4
      have cz0 := cell_of_row (wA.alloc (.cells #[.int .i64 ((insB p at_ x).1).kind, .int .i64 ((insB p at_ x).1).level, .slice iA ((insB p at_ x).1).items.length icA, .slice dA ((insB p at_ x).1).data.length dcA, .int .i64 ((insB p at_ x).1).next] 26)) gz 0 _ _ _ (hXA.blk HZ.out)
      have cz1 := cell_of_row (wA.alloc (.cells #[.int .i64 ((insB p at_ x).1).kind, .int .i64 ((insB p at_ x).1).level, .slice iA ((insB p at_ x).1).items.length icA, .slice dA ((insB p at_ x).1).data.length dcA, .int .i64 ((insB p at_ x).1).next] 26)) gz 1 _ _ _ (hXA.blk HZ.out)
      have cz2 := cell_of_row (wA.alloc (.cells #[.int .i64 ((insB p at_ x).1).kind, .int .i64 ((insB p at_ x).1).level, .slice iA ((insB p at_ x).1).items.length icA, .slice dA ((insB p at_ x).1).data.length dcA, .int .i64 ((insB p at_ x).1).next] 26)) gz 2 _ _ _ (hXA.blk HZ.out)
      have cz3 := cell_of_row (wA.alloc (.cells #[.int .i64 ((insB p at_ x).1).kind, .int .i64 ((insB p at_ x).1).level, .slice iA ((insB p at_ x).1).items.length icA, .slice dA ((insB p at_ x).1).data.length dcA, .int .i64 ((insB p at_ x).1).next] 26)) gz 3 _ _ _ (hXA.blk HZ.out)
      simp only [List.getElem?_toArray, List.getElem?_cons_zero, List.getElem?_cons_succ] at cz0 cz1 cz2 cz3
      go_wp2_with fail
      refine (nreplace_any (p := p) (x := x) (HPX.out.ext hXA) (HPZ.out.ext hXA)).mono ?_
      rintro e wB ⟨vB, rfl, oB, hEB⟩
      have hjB := HJA.out.join hEB (Lot.of_pgo oB) hXA.size
      obtain ⟨iB, icB, dB, dcB, psB, rfl, _⟩ := oB.ex
      clear oB
      clear cx0 cx1 cx2 cx3 cx4 cz0 cz1 cz2 cz3
      have bbB := heap_alloc_new wB (.cells #[.int .i64 ((repB p at_ x).1).kind, .int .i64 ((repB p at_ x).1).level, .slice iB ((repB p at_ x).1).items.length icB, .slice dB ((repB p at_ x).1).data.length dcB, .int .i64 ((repB p at_ x).1).next] 26)
      have hXB := (hXA.trans hEB).trans (ext_alloc wB (.cells #[.int .i64 ((repB p at_ x).1).kind, .int .i64 ((repB p at_ x).1).level, .slice iB ((repB p at_ x).1).items.length icB, .slice dB ((repB p at_ x).1).data.length dcB, .int .i64 ((repB p at_ x).1).next] 26))
      replace BBA := Lib.hid ((hEB.trans (ext_alloc wB (.cells #[.int .i64 ((repB p at_ x).1).kind, .int .i64 ((repB p at_ x).1).level, .slice iB ((repB p at_ x).1).items.length icB, .slice dB ((repB p at_ x).1).data.length dcB, .int .i64 ((repB p at_ x).1).next] 26))).blk BBA.out)
      have BBB := Lib.hid bbB
      clear bbB
      have HJB := Lib.hid (hjB.ext (ext_alloc wB (.cells #[.int .i64 ((repB p at_ x).1).kind, .int .i64 ((repB p at_ x).1).level, .slice iB ((repB p at_ x).1).items.length icB, .slice dB ((repB p at_ x).1).data.length dcB, .int .i64 ((repB p at_ x).1).next] 26)))
      clear hjB HJA
      have cx0 := cell_of_row (wB.alloc (.cells #[.int .i64 ((repB p at_ x).1).kind, .int .i64 ((repB p at_ x).1).level, .slice iB ((repB p at_ x).1).items.length icB, .slice dB ((repB p at_ x).1).data.length dcB, .int .i64 ((repB p at_ x).1).next] 26)) gx 0 _ _ _ (hXB.blk HX.out)
      have cx1 := cell_of_row (wB.alloc (.cells #[.int .i64 ((repB p at_ x).1).kind, .int .i64 ((repB p at_ x).1).level, .slice iB ((repB p at_ x).1).items.length icB, .slice dB ((repB p at_ x).1).data.length dcB, .int .i64 ((repB p at_ x).1).next] 26)) gx 1 _ _ _ (hXB.blk HX.out)
      have cx2 := cell_of_row (wB.alloc (.cells #[.int .i64 ((repB p at_ x).1).kind, .int .i64 ((repB p at_ x).1).level, .slice iB ((repB p at_ x).1).items.length icB, .slice dB ((repB p at_ x).1).data.length dcB, .int .i64 ((repB p at_ x).1).next] 26)) gx 2 _ _ _ (hXB.blk HX.out)
      have cx3 := cell_of_row (wB.alloc (.cells #[.int .i64 ((repB p at_ x).1).kind, .int .i64 ((repB p at_ x).1).level, .slice iB ((repB p at_ x).1).items.length icB, .slice dB ((repB p at_ x).1).data.length dcB, .int .i64 ((repB p at_ x).1).next] 26)) gx 3 _ _ _ (hXB.blk HX.out)
      have cx4 := cell_of_row (wB.alloc (.cells #[.int .i64 ((repB p at_ x).1).kind, .int .i64 ((repB p at_ x).1).level, .slice iB ((repB p at_ x).1).items.length icB, .slice dB ((repB p at_ x).1).data.length dcB, .int .i64 ((repB p at_ x).1).next] 26)) gx 4 _ _ _ (hXB.blk HX.out)
      simp only [List.getElem?_toArray, List.getElem?_cons_zero, List.getElem?_cons_succ] at cx0 cx1 cx2 cx3 cx4
      go_wp2_with fail
      refine (nremove_any (p := p) (HPX.out.ext hXB)).mono ?_
      rintro e wC ⟨vC, rfl, oC, hEC⟩
      have hjC := HJB.out.join hEC (Lot.of_pgo oC) hXB.size
      obtain ⟨iC, icC, dC, dcC, psC, rfl, _⟩ := oC.ex
      clear oC
      clear cx0 cx1 cx2 cx3 cx4
      have bbC := heap_alloc_new wC (.cells #[.int .i64 ((remB p at_).1).kind, .int .i64 ((remB p at_).1).level, .slice iC ((remB p at_).1).items.length icC, .slice dC ((remB p at_).1).data.length dcC, .int .i64 ((remB p at_).1).next] 26)
      have hXC := (hXB.trans hEC).trans (ext_alloc wC (.cells #[.int .i64 ((remB p at_).1).kind, .int .i64 ((remB p at_).1).level, .slice iC ((remB p at_).1).items.length icC, .slice dC ((remB p at_).1).data.length dcC, .int .i64 ((remB p at_).1).next] 26))
      replace BBA := Lib.hid ((hEC.trans (ext_alloc wC (.cells #[.int .i64 ((remB p at_).1).kind, .int .i64 ((remB p at_).1).level, .slice iC ((remB p at_).1).items.length icC, .slice dC ((remB p at_).1).data.length dcC, .int .i64 ((remB p at_).1).next] 26))).blk BBA.out)
      replace BBB := Lib.hid ((hEC.trans (ext_alloc wC (.cells #[.int .i64 ((remB p at_).1).kind, .int .i64 ((remB p at_).1).level, .slice iC ((remB p at_).1).items.length icC, .slice dC ((remB p at_).1).data.length dcC, .int .i64 ((remB p at_).1).next] 26))).blk BBB.out)
      have BBC := Lib.hid bbC
      clear bbC
      have HJC := Lib.hid (hjC.ext (ext_alloc wC (.cells #[.int .i64 ((remB p at_).1).kind, .int .i64 ((remB p at_).1).level, .slice iC ((remB p at_).1).items.length icC, .slice dC ((remB p at_).1).data.length dcC, .int .i64 ((remB p at_).1).next] 26)))
      clear hjC HJB
      have cx0 := cell_of_row (wC.alloc (.cells #[.int .i64 ((remB p at_).1).kind, .int .i64 ((remB p at_).1).level, .slice iC ((remB p at_).1).items.length icC, .slice dC ((remB p at_).1).data.length dcC, .int .i64 ((remB p at_).1).next] 26)) gx 0 _ _ _ (hXC.blk HX.out)
      have cx1 := cell_of_row (wC.alloc (.cells #[.int .i64 ((remB p at_).1).kind, .int .i64 ((remB p at_).1).level, .slice iC ((remB p at_).1).items.length icC, .slice dC ((remB p at_).1).data.length dcC, .int .i64 ((remB p at_).1).next] 26)) gx 1 _ _ _ (hXC.blk HX.out)
      have cx2 := cell_of_row (wC.alloc (.cells #[.int .i64 ((remB p at_).1).kind, .int .i64 ((remB p at_).1).level, .slice iC ((remB p at_).1).items.length icC, .slice dC ((remB p at_).1).data.length dcC, .int .i64 ((remB p at_).1).next] 26)) gx 2 _ _ _ (hXC.blk HX.out)
      have cx3 := cell_of_row (wC.alloc (.cells #[.int .i64 ((remB p at_).1).kind, .int .i64 ((remB p at_).1).level, .slice iC ((remB p at_).1).items.length icC, .slice dC ((remB p at_).1).data.length dcC, .int .i64 ((remB p at_).1).next] 26)) gx 3 _ _ _ (hXC.blk HX.out)
      have cx4 := cell_of_row (wC.alloc (.cells #[.int .i64 ((remB p at_).1).kind, .int .i64 ((remB p at_).1).level, .slice iC ((remB p at_).1).items.length icC, .slice dC ((remB p at_).1).data.length dcC, .int .i64 ((remB p at_).1).next] 26)) gx 4 _ _ _ (hXC.blk HX.out)
      simp only [List.getElem?_toArray, List.getElem?_cons_zero, List.getElem?_cons_succ] at cx0 cx1 cx2 cx3 cx4
      go_wp2_with fail
      refine (nsplit_tri (p := p) (HPX.out.ext hXC)).mono ?_
      rintro e wD ⟨vD1, vD2, sAD, scD, rfl, oD, hED⟩
      have hjD := HJC.out.join hED oD hXC.size
      obtain ⟨iD1, icD1, dD1, dcD1, psD1, rfl, _⟩ := (oD.pgo (List.mem_cons_self ..)).ex
      obtain ⟨iD2, icD2, dD2, dcD2, psD2, rfl, _⟩ := (oD.pgo (List.mem_cons_of_mem _ (List.mem_singleton.2 rfl))).ex
      clear oD
      clear cx0 cx1 cx2 cx3 cx4
      have bbD1 := heap_alloc2_old wD (.cells #[.int .i64 (part1 (splitB p)).kind, .int .i64 (part1 (splitB p)).level, .slice iD1 (part1 (splitB p)).items.length icD1, .slice dD1 (part1 (splitB p)).data.length dcD1, .int .i64 (part1 (splitB p)).next] 26) (.cells #[.int .i64 (part2 (splitB p)).kind, .int .i64 (part2 (splitB p)).level, .slice iD2 (part2 (splitB p)).items.length icD2, .slice dD2 (part2 (splitB p)).data.length dcD2, .int .i64 (part2 (splitB p)).next] 26)
      have bbD2 := heap_alloc2_new wD (.cells #[.int .i64 (part1 (splitB p)).kind, .int .i64 (part1 (splitB p)).level, .slice iD1 (part1 (splitB p)).items.length icD1, .slice dD1 (part1 (splitB p)).data.length dcD1, .int .i64 (part1 (splitB p)).next] 26) (.cells #[.int .i64 (part2 (splitB p)).kind, .int .i64 (part2 (splitB p)).level, .slice iD2 (part2 (splitB p)).items.length icD2, .slice dD2 (part2 (splitB p)).data.length dcD2, .int .i64 (part2 (splitB p)).next] 26)
      have hXD := (hXC.trans hED).trans ((ext_alloc wD (.cells #[.int .i64 (part1 (splitB p)).kind, .int .i64 (part1 (splitB p)).level, .slice iD1 (part1 (splitB p)).items.length icD1, .slice dD1 (part1 (splitB p)).data.length dcD1, .int .i64 (part1 (splitB p)).next] 26)).trans (ext_alloc (wD.alloc (.cells #[.int .i64 (part1 (splitB p)).kind, .int .i64 (part1 (splitB p)).level, .slice iD1 (part1 (splitB p)).items.length icD1, .slice dD1 (part1 (splitB p)).data.length dcD1, .int .i64 (part1 (splitB p)).next] 26)) (.cells #[.int .i64 (part2 (splitB p)).kind, .int .i64 (part2 (splitB p)).level, .slice iD2 (part2 (splitB p)).items.length icD2, .slice dD2 (part2 (splitB p)).data.length dcD2, .int .i64 (part2 (splitB p)).next] 26)))
      replace BBA := Lib.hid ((hED.trans ((ext_alloc wD (.cells #[.int .i64 (part1 (splitB p)).kind, .int .i64 (part1 (splitB p)).level, .slice iD1 (part1 (splitB p)).items.length icD1, .slice dD1 (part1 (splitB p)).data.length dcD1, .int .i64 (part1 (splitB p)).next] 26)).trans (ext_alloc (wD.alloc (.cells #[.int .i64 (part1 (splitB p)).kind, .int .i64 (part1 (splitB p)).level, .slice iD1 (part1 (splitB p)).items.length icD1, .slice dD1 (part1 (splitB p)).data.length dcD1, .int .i64 (part1 (splitB p)).next] 26)) (.cells #[.int .i64 (part2 (splitB p)).kind, .int .i64 (part2 (splitB p)).level, .slice iD2 (part2 (splitB p)).items.length icD2, .slice dD2 (part2 (splitB p)).data.length dcD2, .int .i64 (part2 (splitB p)).next] 26)))).blk BBA.out)
      replace BBB := Lib.hid ((hED.trans ((ext_alloc wD (.cells #[.int .i64 (part1 (splitB p)).kind, .int .i64 (part1 (splitB p)).level, .slice iD1 (part1 (splitB p)).items.length icD1, .slice dD1 (part1 (splitB p)).data.length dcD1, .int .i64 (part1 (splitB p)).next] 26)).trans (ext_alloc (wD.alloc (.cells #[.int .i64 (part1 (splitB p)).kind, .int .i64 (part1 (splitB p)).level, .slice iD1 (part1 (splitB p)).items.length icD1, .slice dD1 (part1 (splitB p)).data.length dcD1, .int .i64 (part1 (splitB p)).next] 26)) (.cells #[.int .i64 (part2 (splitB p)).kind, .int .i64 (part2 (splitB p)).level, .slice iD2 (part2 (splitB p)).items.length icD2, .slice dD2 (part2 (splitB p)).data.length dcD2, .int .i64 (part2 (splitB p)).next] 26)))).blk BBB.out)
      replace BBC := Lib.hid ((hED.trans ((ext_alloc wD (.cells #[.int .i64 (part1 (splitB p)).kind, .int .i64 (part1 (splitB p)).level, .slice iD1 (part1 (splitB p)).items.length icD1, .slice dD1 (part1 (splitB p)).data.length dcD1, .int .i64 (part1 (splitB p)).next] 26)).trans (ext_alloc (wD.alloc (.cells #[.int .i64 (part1 (splitB p)).kind, .int .i64 (part1 (splitB p)).level, .slice iD1 (part1 (splitB p)).items.length icD1, .slice dD1 (part1 (splitB p)).data.length dcD1, .int .i64 (part1 (splitB p)).next] 26)) (.cells #[.int .i64 (part2 (splitB p)).kind, .int .i64 (part2 (splitB p)).level, .slice iD2 (part2 (splitB p)).items.length icD2, .slice dD2 (part2 (splitB p)).data.length dcD2, .int .i64 (part2 (splitB p)).next] 26)))).blk BBC.out)
      have BBD1 := Lib.hid bbD1
      clear bbD1
      have BBD2 := Lib.hid bbD2
      clear bbD2
      have HJD := Lib.hid (hjD.ext ((ext_alloc wD (.cells #[.int .i64 (part1 (splitB p)).kind, .int .i64 (part1 (splitB p)).level, .slice iD1 (part1 (splitB p)).items.length icD1, .slice dD1 (part1 (splitB p)).data.length dcD1, .int .i64 (part1 (splitB p)).next] 26)).trans (ext_alloc (wD.alloc (.cells #[.int .i64 (part1 (splitB p)).kind, .int .i64 (part1 (splitB p)).level, .slice iD1 (part1 (splitB p)).items.length icD1, .slice dD1 (part1 (splitB p)).data.length dcD1, .int .i64 (part1 (splitB p)).next] 26)) (.cells #[.int .i64 (part2 (splitB p)).kind, .int .i64 (part2 (splitB p)).level, .slice iD2 (part2 (splitB p)).items.length icD2, .slice dD2 (part2 (splitB p)).data.length dcD2, .int .i64 (part2 (splitB p)).next] 26))))
      clear hjD HJC
      have cx0 := cell_of_row ((wD.alloc (.cells #[.int .i64 (part1 (splitB p)).kind, .int .i64 (part1 (splitB p)).level, .slice iD1 (part1 (splitB p)).items.length icD1, .slice dD1 (part1 (splitB p)).data.length dcD1, .int .i64 (part1 (splitB p)).next] 26)).alloc (.cells #[.int .i64 (part2 (splitB p)).kind, .int .i64 (part2 (splitB p)).level, .slice iD2 (part2 (splitB p)).items.length icD2, .slice dD2 (part2 (splitB p)).data.length dcD2, .int .i64 (part2 (splitB p)).next] 26)) gx 0 _ _ _ (hXD.blk HX.out)
      have cx1 := cell_of_row ((wD.alloc (.cells #[.int .i64 (part1 (splitB p)).kind, .int .i64 (part1 (splitB p)).level, .slice iD1 (part1 (splitB p)).items.length icD1, .slice dD1 (part1 (splitB p)).data.length dcD1, .int .i64 (part1 (splitB p)).next] 26)).alloc (.cells #[.int .i64 (part2 (splitB p)).kind, .int .i64 (part2 (splitB p)).level, .slice iD2 (part2 (splitB p)).items.length icD2, .slice dD2 (part2 (splitB p)).data.length dcD2, .int .i64 (part2 (splitB p)).next] 26)) gx 1 _ _ _ (hXD.blk HX.out)
      have cx2 := cell_of_row ((wD.alloc (.cells #[.int .i64 (part1 (splitB p)).kind, .int .i64 (part1 (splitB p)).level, .slice iD1 (part1 (splitB p)).items.length icD1, .slice dD1 (part1 (splitB p)).data.length dcD1, .int .i64 (part1 (splitB p)).next] 26)).alloc (.cells #[.int .i64 (part2 (splitB p)).kind, .int .i64 (part2 (splitB p)).level, .slice iD2 (part2 (splitB p)).items.length icD2, .slice dD2 (part2 (splitB p)).data.length dcD2, .int .i64 (part2 (splitB p)).next] 26)) gx 2 _ _ _ (hXD.blk HX.out)
      have cx3 := cell_of_row ((wD.alloc (.cells #[.int .i64 (part1 (splitB p)).kind, .int .i64 (part1 (splitB p)).level, .slice iD1 (part1 (splitB p)).items.length icD1, .slice dD1 (part1 (splitB p)).data.length dcD1, .int .i64 (part1 (splitB p)).next] 26)).alloc (.cells #[.int .i64 (part2 (splitB p)).kind, .int .i64 (part2 (splitB p)).level, .slice iD2 (part2 (splitB p)).items.length icD2, .slice dD2 (part2 (splitB p)).data.length dcD2, .int .i64 (part2 (splitB p)).next] 26)) gx 3 _ _ _ (hXD.blk HX.out)
      have cx4 := cell_of_row ((wD.alloc (.cells #[.int .i64 (part1 (splitB p)).kind, .int .i64 (part1 (splitB p)).level, .slice iD1 (part1 (splitB p)).items.length icD1, .slice dD1 (part1 (splitB p)).data.length dcD1, .int .i64 (part1 (splitB p)).next] 26)).alloc (.cells #[.int .i64 (part2 (splitB p)).kind, .int .i64 (part2 (splitB p)).level, .slice iD2 (part2 (splitB p)).items.length icD2, .slice dD2 (part2 (splitB p)).data.length dcD2, .int .i64 (part2 (splitB p)).next] 26)) gx 4 _ _ _ (hXD.blk HX.out)
      simp only [List.getElem?_toArray, List.getElem?_cons_zero, List.getElem?_cons_succ] at cx0 cx1 cx2 cx3 cx4
      have cy0 := cell_of_row ((wD.alloc (.cells #[.int .i64 (part1 (splitB p)).kind, .int .i64 (part1 (splitB p)).level, .slice iD1 (part1 (splitB p)).items.length icD1, .slice dD1 (part1 (splitB p)).data.length dcD1, .int .i64 (part1 (splitB p)).next] 26)).alloc (.cells #[.int .i64 (part2 (splitB p)).kind, .int .i64 (part2 (splitB p)).level, .slice iD2 (part2 (splitB p)).items.length icD2, .slice dD2 (part2 (splitB p)).data.length dcD2, .int .i64 (part2 (splitB p)).next] 26)) gy 0 _ _ _ (hXD.blk HY.out)
      have cy1 := cell_of_row ((wD.alloc (.cells #[.int .i64 (part1 (splitB p)).kind, .int .i64 (part1 (splitB p)).level, .slice iD1 (part1 (splitB p)).items.length icD1, .slice dD1 (part1 (splitB p)).data.length dcD1, .int .i64 (part1 (splitB p)).next] 26)).alloc (.cells #[.int .i64 (part2 (splitB p)).kind, .int .i64 (part2 (splitB p)).level, .slice iD2 (part2 (splitB p)).items.length icD2, .slice dD2 (part2 (splitB p)).data.length dcD2, .int .i64 (part2 (splitB p)).next] 26)) gy 1 _ _ _ (hXD.blk HY.out)
      have cy2 := cell_of_row ((wD.alloc (.cells #[.int .i64 (part1 (splitB p)).kind, .int .i64 (part1 (splitB p)).level, .slice iD1 (part1 (splitB p)).items.length icD1, .slice dD1 (part1 (splitB p)).data.length dcD1, .int .i64 (part1 (splitB p)).next] 26)).alloc (.cells #[.int .i64 (part2 (splitB p)).kind, .int .i64 (part2 (splitB p)).level, .slice iD2 (part2 (splitB p)).items.length icD2, .slice dD2 (part2 (splitB p)).data.length dcD2, .int .i64 (part2 (splitB p)).next] 26)) gy 2 _ _ _ (hXD.blk HY.out)
      have cy3 := cell_of_row ((wD.alloc (.cells #[.int .i64 (part1 (splitB p)).kind, .int .i64 (part1 (splitB p)).level, .slice iD1 (part1 (splitB p)).items.length icD1, .slice dD1 (part1 (splitB p)).data.length dcD1, .int .i64 (part1 (splitB p)).next] 26)).alloc (.cells #[.int .i64 (part2 (splitB p)).kind, .int .i64 (part2 (splitB p)).level, .slice iD2 (part2 (splitB p)).items.length icD2, .slice dD2 (part2 (splitB p)).data.length dcD2, .int .i64 (part2 (splitB p)).next] 26)) gy 3 _ _ _ (hXD.blk HY.out)
      have cy4 := cell_of_row ((wD.alloc (.cells #[.int .i64 (part1 (splitB p)).kind, .int .i64 (part1 (splitB p)).level, .slice iD1 (part1 (splitB p)).items.length icD1, .slice dD1 (part1 (splitB p)).data.length dcD1, .int .i64 (part1 (splitB p)).next] 26)).alloc (.cells #[.int .i64 (part2 (splitB p)).kind, .int .i64 (part2 (splitB p)).level, .slice iD2 (part2 (splitB p)).items.length icD2, .slice dD2 (part2 (splitB p)).data.length dcD2, .int .i64 (part2 (splitB p)).next] 26)) gy 4 _ _ _ (hXD.blk HY.out)
      simp only [List.getElem?_toArray, List.getElem?_cons_zero, List.getElem?_cons_succ] at cy0 cy1 cy2 cy3 cy4
      go_wp2_with fail
      refine (njoin_any (p := p) (q := q) (HPX.out.ext hXD) (HPY.out.ext hXD) (HPS.out.ext hXD) rfl).mono ?_
      rintro e wF ⟨vF, rfl, oF, hEF⟩
      have hjF := HJD.out.join hEF (Lot.of_pgo oF) hXD.size
      obtain ⟨iF, icF, dF, dcF, psF, rfl, _⟩ := oF.ex
      clear oF
      clear cx0 cx1 cx2 cx3 cx4 cy0 cy1 cy2 cy3 cy4
      have bbF := heap_alloc_new wF (.cells #[.int .i64 ((joinB p q sep).1).kind, .int .i64 ((joinB p q sep).1).level, .slice iF ((joinB p q sep).1).items.length icF, .slice dF ((joinB p q sep).1).data.length dcF, .int .i64 ((joinB p q sep).1).next] 26)
      have hXF := (hXD.trans hEF).trans (ext_alloc wF (.cells #[.int .i64 ((joinB p q sep).1).kind, .int .i64 ((joinB p q sep).1).level, .slice iF ((joinB p q sep).1).items.length icF, .slice dF ((joinB p q sep).1).data.length dcF, .int .i64 ((joinB p q sep).1).next] 26))
      replace BBA := Lib.hid ((hEF.trans (ext_alloc wF (.cells #[.int .i64 ((joinB p q sep).1).kind, .int .i64 ((joinB p q sep).1).level, .slice iF ((joinB p q sep).1).items.length icF, .slice dF ((joinB p q sep).1).data.length dcF, .int .i64 ((joinB p q sep).1).next] 26))).blk BBA.out)
      replace BBB := Lib.hid ((hEF.trans (ext_alloc wF (.cells #[.int .i64 ((joinB p q sep).1).kind, .int .i64 ((joinB p q sep).1).level, .slice iF ((joinB p q sep).1).items.length icF, .slice dF ((joinB p q sep).1).data.length dcF, .int .i64 ((joinB p q sep).1).next] 26))).blk BBB.out)
      replace BBC := Lib.hid ((hEF.trans (ext_alloc wF (.cells #[.int .i64 ((joinB p q sep).1).kind, .int .i64 ((joinB p q sep).1).level, .slice iF ((joinB p q sep).1).items.length icF, .slice dF ((joinB p q sep).1).data.length dcF, .int .i64 ((joinB p q sep).1).next] 26))).blk BBC.out)
      replace BBD1 := Lib.hid ((hEF.trans (ext_alloc wF (.cells #[.int .i64 ((joinB p q sep).1).kind, .int .i64 ((joinB p q sep).1).level, .slice iF ((joinB p q sep).1).items.length icF, .slice dF ((joinB p q sep).1).data.length dcF, .int .i64 ((joinB p q sep).1).next] 26))).blk BBD1.out)
      replace BBD2 := Lib.hid ((hEF.trans (ext_alloc wF (.cells #[.int .i64 ((joinB p q sep).1).kind, .int .i64 ((joinB p q sep).1).level, .slice iF ((joinB p q sep).1).items.length icF, .slice dF ((joinB p q sep).1).data.length dcF, .int .i64 ((joinB p q sep).1).next] 26))).blk BBD2.out)
      have BBF := Lib.hid bbF
      clear bbF
      have HJF := Lib.hid (hjF.ext (ext_alloc wF (.cells #[.int .i64 ((joinB p q sep).1).kind, .int .i64 ((joinB p q sep).1).level, .slice iF ((joinB p q sep).1).items.length icF, .slice dF ((joinB p q sep).1).data.length dcF, .int .i64 ((joinB p q sep).1).next] 26)))
      clear hjF HJD
      have cx0 := cell_of_row (wF.alloc (.cells #[.int .i64 ((joinB p q sep).1).kind, .int .i64 ((joinB p q sep).1).level, .slice iF ((joinB p q sep).1).items.length icF, .slice dF ((joinB p q sep).1).data.length dcF, .int .i64 ((joinB p q sep).1).next] 26)) gx 0 _ _ _ (hXF.blk HX.out)
      have cx1 := cell_of_row (wF.alloc (.cells #[.int .i64 ((joinB p q sep).1).kind, .int .i64 ((joinB p q sep).1).level, .slice iF ((joinB p q sep).1).items.length icF, .slice dF ((joinB p q sep).1).data.length dcF, .int .i64 ((joinB p q sep).1).next] 26)) gx 1 _ _ _ (hXF.blk HX.out)
      have cx2 := cell_of_row (wF.alloc (.cells #[.int .i64 ((joinB p q sep).1).kind, .int .i64 ((joinB p q sep).1).level, .slice iF ((joinB p q sep).1).items.length icF, .slice dF ((joinB p q sep).1).data.length dcF, .int .i64 ((joinB p q sep).1).next] 26)) gx 2 _ _ _ (hXF.blk HX.out)
      have cx3 := cell_of_row (wF.alloc (.cells #[.int .i64 ((joinB p q sep).1).kind, .int .i64 ((joinB p q sep).1).level, .slice iF ((joinB p q sep).1).items.length icF, .slice dF ((joinB p q sep).1).data.length dcF, .int .i64 ((joinB p q sep).1).next] 26)) gx 3 _ _ _ (hXF.blk HX.out)
      have cx4 := cell_of_row (wF.alloc (.cells #[.int .i64 ((joinB p q sep).1).kind, .int .i64 ((joinB p q sep).1).level, .slice iF ((joinB p q sep).1).items.length icF, .slice dF ((joinB p q sep).1).data.length dcF, .int .i64 ((joinB p q sep).1).next] 26)) gx 4 _ _ _ (hXF.blk HX.out)
      simp only [List.getElem?_toArray, List.getElem?_cons_zero, List.getElem?_cons_succ] at cx0 cx1 cx2 cx3 cx4
      have cy0 := cell_of_row (wF.alloc (.cells #[.int .i64 ((joinB p q sep).1).kind, .int .i64 ((joinB p q sep).1).level, .slice iF ((joinB p q sep).1).items.length icF, .slice dF ((joinB p q sep).1).data.length dcF, .int .i64 ((joinB p q sep).1).next] 26)) gy 0 _ _ _ (hXF.blk HY.out)
      have cy1 := cell_of_row (wF.alloc (.cells #[.int .i64 ((joinB p q sep).1).kind, .int .i64 ((joinB p q sep).1).level, .slice iF ((joinB p q sep).1).items.length icF, .slice dF ((joinB p q sep).1).data.length dcF, .int .i64 ((joinB p q sep).1).next] 26)) gy 1 _ _ _ (hXF.blk HY.out)
      have cy2 := cell_of_row (wF.alloc (.cells #[.int .i64 ((joinB p q sep).1).kind, .int .i64 ((joinB p q sep).1).level, .slice iF ((joinB p q sep).1).items.length icF, .slice dF ((joinB p q sep).1).data.length dcF, .int .i64 ((joinB p q sep).1).next] 26)) gy 2 _ _ _ (hXF.blk HY.out)
      have cy3 := cell_of_row (wF.alloc (.cells #[.int .i64 ((joinB p q sep).1).kind, .int .i64 ((joinB p q sep).1).level, .slice iF ((joinB p q sep).1).items.length icF, .slice dF ((joinB p q sep).1).data.length dcF, .int .i64 ((joinB p q sep).1).next] 26)) gy 3 _ _ _ (hXF.blk HY.out)
      have cy4 := cell_of_row (wF.alloc (.cells #[.int .i64 ((joinB p q sep).1).kind, .int .i64 ((joinB p q sep).1).level, .slice iF ((joinB p q sep).1).items.length icF, .slice dF ((joinB p q sep).1).data.length dcF, .int .i64 ((joinB p q sep).1).next] 26)) gy 4 _ _ _ (hXF.blk HY.out)
      simp only [List.getElem?_toArray, List.getElem?_cons_zero, List.getElem?_cons_succ] at cy0 cy1 cy2 cy3 cy4
      have ct11 := cell_of_row (wF.alloc (.cells #[.int .i64 ((joinB p q sep).1).kind, .int .i64 ((joinB p q sep).1).level, .slice iF ((joinB p q sep).1).items.length icF, .slice dF ((joinB p q sep).1).data.length dcF, .int .i64 ((joinB p q sep).1).next] 26)) w.heap.size 11 _ _ _ (hXF.blk HTT.out)
      simp only [List.getElem?_toArray, List.getElem?_cons_zero, List.getElem?_cons_succ] at ct11
      go_wp2_with fail
      refine (nlend_tri (p := p) (q := q) (toR := toR) (HPX.out.ext hXF) (HPY.out.ext hXF) (HPS.out.ext hXF) rfl HLE.out).mono ?_
      rintro e wG ⟨vG1, vG2, sAG, scG, rfl, oG, hEG⟩
      have hjG := HJF.out.join hEG oG hXF.size
      obtain ⟨iG1, icG1, dG1, dcG1, psG1, rfl, _⟩ := (oG.pgo (List.mem_cons_self ..)).ex
      obtain ⟨iG2, icG2, dG2, dcG2, psG2, rfl, _⟩ := (oG.pgo (List.mem_cons_of_mem _ (List.mem_singleton.2 rfl))).ex
      clear oG
      clear cx0 cx1 cx2 cx3 cx4 cy0 cy1 cy2 cy3 cy4
      clear ct11
      have bbG1 := heap_alloc2_old wG (.cells #[.int .i64 (part1 (lendB p q sep toR)).kind, .int .i64 (part1 (lendB p q sep toR)).level, .slice iG1 (part1 (lendB p q sep toR)).items.length icG1, .slice dG1 (part1 (lendB p q sep toR)).data.length dcG1, .int .i64 (part1 (lendB p q sep toR)).next] 26) (.cells #[.int .i64 (part2 (lendB p q sep toR)).kind, .int .i64 (part2 (lendB p q sep toR)).level, .slice iG2 (part2 (lendB p q sep toR)).items.length icG2, .slice dG2 (part2 (lendB p q sep toR)).data.length dcG2, .int .i64 (part2 (lendB p q sep toR)).next] 26)
      have bbG2 := heap_alloc2_new wG (.cells #[.int .i64 (part1 (lendB p q sep toR)).kind, .int .i64 (part1 (lendB p q sep toR)).level, .slice iG1 (part1 (lendB p q sep toR)).items.length icG1, .slice dG1 (part1 (lendB p q sep toR)).data.length dcG1, .int .i64 (part1 (lendB p q sep toR)).next] 26) (.cells #[.int .i64 (part2 (lendB p q sep toR)).kind, .int .i64 (part2 (lendB p q sep toR)).level, .slice iG2 (part2 (lendB p q sep toR)).items.length icG2, .slice dG2 (part2 (lendB p q sep toR)).data.length dcG2, .int .i64 (part2 (lendB p q sep toR)).next] 26)
      have hXG := (hXF.trans hEG).trans ((ext_alloc wG (.cells #[.int .i64 (part1 (lendB p q sep toR)).kind, .int .i64 (part1 (lendB p q sep toR)).level, .slice iG1 (part1 (lendB p q sep toR)).items.length icG1, .slice dG1 (part1 (lendB p q sep toR)).data.length dcG1, .int .i64 (part1 (lendB p q sep toR)).next] 26)).trans (ext_alloc (wG.alloc (.cells #[.int .i64 (part1 (lendB p q sep toR)).kind, .int .i64 (part1 (lendB p q sep toR)).level, .slice iG1 (part1 (lendB p q sep toR)).items.length icG1, .slice dG1 (part1 (lendB p q sep toR)).data.length dcG1, .int .i64 (part1 (lendB p q sep toR)).next] 26)) (.cells #[.int .i64 (part2 (lendB p q sep toR)).kind, .int .i64 (part2 (lendB p q sep toR)).level, .slice iG2 (part2 (lendB p q sep toR)).items.length icG2, .slice dG2 (part2 (lendB p q sep toR)).data.length dcG2, .int .i64 (part2 (lendB p q sep toR)).next] 26)))
      replace BBA := Lib.hid ((hEG.trans ((ext_alloc wG (.cells #[.int .i64 (part1 (lendB p q sep toR)).kind, .int .i64 (part1 (lendB p q sep toR)).level, .slice iG1 (part1 (lendB p q sep toR)).items.length icG1, .slice dG1 (part1 (lendB p q sep toR)).data.length dcG1, .int .i64 (part1 (lendB p q sep toR)).next] 26)).trans (ext_alloc (wG.alloc (.cells #[.int .i64 (part1 (lendB p q sep toR)).kind, .int .i64 (part1 (lendB p q sep toR)).level, .slice iG1 (part1 (lendB p q sep toR)).items.length icG1, .slice dG1 (part1 (lendB p q sep toR)).data.length dcG1, .int .i64 (part1 (lendB p q sep toR)).next] 26)) (.cells #[.int .i64 (part2 (lendB p q sep toR)).kind, .int .i64 (part2 (lendB p q sep toR)).level, .slice iG2 (part2 (lendB p q sep toR)).items.length icG2, .slice dG2 (part2 (lendB p q sep toR)).data.length dcG2, .int .i64 (part2 (lendB p q sep toR)).next] 26)))).blk BBA.out)
      replace BBB := Lib.hid ((hEG.trans ((ext_alloc wG (.cells #[.int .i64 (part1 (lendB p q sep toR)).kind, .int .i64 (part1 (lendB p q sep toR)).level, .slice iG1 (part1 (lendB p q sep toR)).items.length icG1, .slice dG1 (part1 (lendB p q sep toR)).data.length dcG1, .int .i64 (part1 (lendB p q sep toR)).next] 26)).trans (ext_alloc (wG.alloc (.cells #[.int .i64 (part1 (lendB p q sep toR)).kind, .int .i64 (part1 (lendB p q sep toR)).level, .slice iG1 (part1 (lendB p q sep toR)).items.length icG1, .slice dG1 (part1 (lendB p q sep toR)).data.length dcG1, .int .i64 (part1 (lendB p q sep toR)).next] 26)) (.cells #[.int .i64 (part2 (lendB p q sep toR)).kind, .int .i64 (part2 (lendB p q sep toR)).level, .slice iG2 (part2 (lendB p q sep toR)).items.length icG2, .slice dG2 (part2 (lendB p q sep toR)).data.length dcG2, .int .i64 (part2 (lendB p q sep toR)).next] 26)))).blk BBB.out)
      replace BBC := Lib.hid ((hEG.trans ((ext_alloc wG (.cells #[.int .i64 (part1 (lendB p q sep toR)).kind, .int .i64 (part1 (lendB p q sep toR)).level, .slice iG1 (part1 (lendB p q sep toR)).items.length icG1, .slice dG1 (part1 (lendB p q sep toR)).data.length dcG1, .int .i64 (part1 (lendB p q sep toR)).next] 26)).trans (ext_alloc (wG.alloc (.cells #[.int .i64 (part1 (lendB p q sep toR)).kind, .int .i64 (part1 (lendB p q sep toR)).level, .slice iG1 (part1 (lendB p q sep toR)).items.length icG1, .slice dG1 (part1 (lendB p q sep toR)).data.length dcG1, .int .i64 (part1 (lendB p q sep toR)).next] 26)) (.cells #[.int .i64 (part2 (lendB p q sep toR)).kind, .int .i64 (part2 (lendB p q sep toR)).level, .slice iG2 (part2 (lendB p q sep toR)).items.length icG2, .slice dG2 (part2 (lendB p q sep toR)).data.length dcG2, .int .i64 (part2 (lendB p q sep toR)).next] 26)))).blk BBC.out)
      replace BBD1 := Lib.hid ((hEG.trans ((ext_alloc wG (.cells #[.int .i64 (part1 (lendB p q sep toR)).kind, .int .i64 (part1 (lendB p q sep toR)).level, .slice iG1 (part1 (lendB p q sep toR)).items.length icG1, .slice dG1 (part1 (lendB p q sep toR)).data.length dcG1, .int .i64 (part1 (lendB p q sep toR)).next] 26)).trans (ext_alloc (wG.alloc (.cells #[.int .i64 (part1 (lendB p q sep toR)).kind, .int .i64 (part1 (lendB p q sep toR)).level, .slice iG1 (part1 (lendB p q sep toR)).items.length icG1, .slice dG1 (part1 (lendB p q sep toR)).data.length dcG1, .int .i64 (part1 (lendB p q sep toR)).next] 26)) (.cells #[.int .i64 (part2 (lendB p q sep toR)).kind, .int .i64 (part2 (lendB p q sep toR)).level, .slice iG2 (part2 (lendB p q sep toR)).items.length icG2, .slice dG2 (part2 (lendB p q sep toR)).data.length dcG2, .int .i64 (part2 (lendB p q sep toR)).next] 26)))).blk BBD1.out)
      replace BBD2 := Lib.hid ((hEG.trans ((ext_alloc wG (.cells #[.int .i64 (part1 (lendB p q sep toR)).kind, .int .i64 (part1 (lendB p q sep toR)).level, .slice iG1 (part1 (lendB p q sep toR)).items.length icG1, .slice dG1 (part1 (lendB p q sep toR)).data.length dcG1, .int .i64 (part1 (lendB p q sep toR)).next] 26)).trans (ext_alloc (wG.alloc (.cells #[.int .i64 (part1 (lendB p q sep toR)).kind, .int .i64 (part1 (lendB p q sep toR)).level, .slice iG1 (part1 (lendB p q sep toR)).items.length icG1, .slice dG1 (part1 (lendB p q sep toR)).data.length dcG1, .int .i64 (part1 (lendB p q sep toR)).next] 26)) (.cells #[.int .i64 (part2 (lendB p q sep toR)).kind, .int .i64 (part2 (lendB p q sep toR)).level, .slice iG2 (part2 (lendB p q sep toR)).items.length icG2, .slice dG2 (part2 (lendB p q sep toR)).data.length dcG2, .int .i64 (part2 (lendB p q sep toR)).next] 26)))).blk BBD2.out)
      replace BBF := Lib.hid ((hEG.trans ((ext_alloc wG (.cells #[.int .i64 (part1 (lendB p q sep toR)).kind, .int .i64 (part1 (lendB p q sep toR)).level, .slice iG1 (part1 (lendB p q sep toR)).items.length icG1, .slice dG1 (part1 (lendB p q sep toR)).data.length dcG1, .int .i64 (part1 (lendB p q sep toR)).next] 26)).trans (ext_alloc (wG.alloc (.cells #[.int .i64 (part1 (lendB p q sep toR)).kind, .int .i64 (part1 (lendB p q sep toR)).level, .slice iG1 (part1 (lendB p q sep toR)).items.length icG1, .slice dG1 (part1 (lendB p q sep toR)).data.length dcG1, .int .i64 (part1 (lendB p q sep toR)).next] 26)) (.cells #[.int .i64 (part2 (lendB p q sep toR)).kind, .int .i64 (part2 (lendB p q sep toR)).level, .slice iG2 (part2 (lendB p q sep toR)).items.length icG2, .slice dG2 (part2 (lendB p q sep toR)).data.length dcG2, .int .i64 (part2 (lendB p q sep toR)).next] 26)))).blk BBF.out)
      have BBG1 := Lib.hid bbG1
      clear bbG1
      have BBG2 := Lib.hid bbG2
      clear bbG2
      have HJG := Lib.hid (hjG.ext ((ext_alloc wG (.cells #[.int .i64 (part1 (lendB p q sep toR)).kind, .int .i64 (part1 (lendB p q sep toR)).level, .slice iG1 (part1 (lendB p q sep toR)).items.length icG1, .slice dG1 (part1 (lendB p q sep toR)).data.length dcG1, .int .i64 (part1 (lendB p q sep toR)).next] 26)).trans (ext_alloc (wG.alloc (.cells #[.int .i64 (part1 (lendB p q sep toR)).kind, .int .i64 (part1 (lendB p q sep toR)).level, .slice iG1 (part1 (lendB p q sep toR)).items.length icG1, .slice dG1 (part1 (lendB p q sep toR)).data.length dcG1, .int .i64 (part1 (lendB p q sep toR)).next] 26)) (.cells #[.int .i64 (part2 (lendB p q sep toR)).kind, .int .i64 (part2 (lendB p q sep toR)).level, .slice iG2 (part2 (lendB p q sep toR)).items.length icG2, .slice dG2 (part2 (lendB p q sep toR)).data.length dcG2, .int .i64 (part2 (lendB p q sep toR)).next] 26))))
      clear hjG HJF
      have ba0 := cell_of_row ((wG.alloc (.cells #[.int .i64 (part1 (lendB p q sep toR)).kind, .int .i64 (part1 (lendB p q sep toR)).level, .slice iG1 (part1 (lendB p q sep toR)).items.length icG1, .slice dG1 (part1 (lendB p q sep toR)).data.length dcG1, .int .i64 (part1 (lendB p q sep toR)).next] 26)).alloc (.cells #[.int .i64 (part2 (lendB p q sep toR)).kind, .int .i64 (part2 (lendB p q sep toR)).level, .slice iG2 (part2 (lendB p q sep toR)).items.length icG2, .slice dG2 (part2 (lendB p q sep toR)).data.length dcG2, .int .i64 (part2 (lendB p q sep toR)).next] 26)) (wA.heap.size) 0 _ _ _ BBA.out
      have ba1 := cell_of_row ((wG.alloc (.cells #[.int .i64 (part1 (lendB p q sep toR)).kind, .int .i64 (part1 (lendB p q sep toR)).level, .slice iG1 (part1 (lendB p q sep toR)).items.length icG1, .slice dG1 (part1 (lendB p q sep toR)).data.length dcG1, .int .i64 (part1 (lendB p q sep toR)).next] 26)).alloc (.cells #[.int .i64 (part2 (lendB p q sep toR)).kind, .int .i64 (part2 (lendB p q sep toR)).level, .slice iG2 (part2 (lendB p q sep toR)).items.length icG2, .slice dG2 (part2 (lendB p q sep toR)).data.length dcG2, .int .i64 (part2 (lendB p q sep toR)).next] 26)) (wA.heap.size) 1 _ _ _ BBA.out
      have ba2 := cell_of_row ((wG.alloc (.cells #[.int .i64 (part1 (lendB p q sep toR)).kind, .int .i64 (part1 (lendB p q sep toR)).level, .slice iG1 (part1 (lendB p q sep toR)).items.length icG1, .slice dG1 (part1 (lendB p q sep toR)).data.length dcG1, .int .i64 (part1 (lendB p q sep toR)).next] 26)).alloc (.cells #[.int .i64 (part2 (lendB p q sep toR)).kind, .int .i64 (part2 (lendB p q sep toR)).level, .slice iG2 (part2 (lendB p q sep toR)).items.length icG2, .slice dG2 (part2 (lendB p q sep toR)).data.length dcG2, .int .i64 (part2 (lendB p q sep toR)).next] 26)) (wA.heap.size) 2 _ _ _ BBA.out
      have ba3 := cell_of_row ((wG.alloc (.cells #[.int .i64 (part1 (lendB p q sep toR)).kind, .int .i64 (part1 (lendB p q sep toR)).level, .slice iG1 (part1 (lendB p q sep toR)).items.length icG1, .slice dG1 (part1 (lendB p q sep toR)).data.length dcG1, .int .i64 (part1 (lendB p q sep toR)).next] 26)).alloc (.cells #[.int .i64 (part2 (lendB p q sep toR)).kind, .int .i64 (part2 (lendB p q sep toR)).level, .slice iG2 (part2 (lendB p q sep toR)).items.length icG2, .slice dG2 (part2 (lendB p q sep toR)).data.length dcG2, .int .i64 (part2 (lendB p q sep toR)).next] 26)) (wA.heap.size) 3 _ _ _ BBA.out
      have ba4 := cell_of_row ((wG.alloc (.cells #[.int .i64 (part1 (lendB p q sep toR)).kind, .int .i64 (part1 (lendB p q sep toR)).level, .slice iG1 (part1 (lendB p q sep toR)).items.length icG1, .slice dG1 (part1 (lendB p q sep toR)).data.length dcG1, .int .i64 (part1 (lendB p q sep toR)).next] 26)).alloc (.cells #[.int .i64 (part2 (lendB p q sep toR)).kind, .int .i64 (part2 (lendB p q sep toR)).level, .slice iG2 (part2 (lendB p q sep toR)).items.length icG2, .slice dG2 (part2 (lendB p q sep toR)).data.length dcG2, .int .i64 (part2 (lendB p q sep toR)).next] 26)) (wA.heap.size) 4 _ _ _ BBA.out
      simp only [List.getElem?_toArray, List.getElem?_cons_zero, List.getElem?_cons_succ] at ba0 ba1 ba2 ba3 ba4
      have bb0 := cell_of_row ((wG.alloc (.cells #[.int .i64 (part1 (lendB p q sep toR)).kind, .int .i64 (part1 (lendB p q sep toR)).level, .slice iG1 (part1 (lendB p q sep toR)).items.length icG1, .slice dG1 (part1 (lendB p q sep toR)).data.length dcG1, .int .i64 (part1 (lendB p q sep toR)).next] 26)).alloc (.cells #[.int .i64 (part2 (lendB p q sep toR)).kind, .int .i64 (part2 (lendB p q sep toR)).level, .slice iG2 (part2 (lendB p q sep toR)).items.length icG2, .slice dG2 (part2 (lendB p q sep toR)).data.length dcG2, .int .i64 (part2 (lendB p q sep toR)).next] 26)) (wB.heap.size) 0 _ _ _ BBB.out
      have bb1 := cell_of_row ((wG.alloc (.cells #[.int .i64 (part1 (lendB p q sep toR)).kind, .int .i64 (part1 (lendB p q sep toR)).level, .slice iG1 (part1 (lendB p q sep toR)).items.length icG1, .slice dG1 (part1 (lendB p q sep toR)).data.length dcG1, .int .i64 (part1 (lendB p q sep toR)).next] 26)).alloc (.cells #[.int .i64 (part2 (lendB p q sep toR)).kind, .int .i64 (part2 (lendB p q sep toR)).level, .slice iG2 (part2 (lendB p q sep toR)).items.length icG2, .slice dG2 (part2 (lendB p q sep toR)).data.length dcG2, .int .i64 (part2 (lendB p q sep toR)).next] 26)) (wB.heap.size) 1 _ _ _ BBB.out
      have bb2 := cell_of_row ((wG.alloc (.cells #[.int .i64 (part1 (lendB p q sep toR)).kind, .int .i64 (part1 (lendB p q sep toR)).level, .slice iG1 (part1 (lendB p q sep toR)).items.length icG1, .slice dG1 (part1 (lendB p q sep toR)).data.length dcG1, .int .i64 (part1 (lendB p q sep toR)).next] 26)).alloc (.cells #[.int .i64 (part2 (lendB p q sep toR)).kind, .int .i64 (part2 (lendB p q sep toR)).level, .slice iG2 (part2 (lendB p q sep toR)).items.length icG2, .slice dG2 (part2 (lendB p q sep toR)).data.length dcG2, .int .i64 (part2 (lendB p q sep toR)).next] 26)) (wB.heap.size) 2 _ _ _ BBB.out
      have bb3 := cell_of_row ((wG.alloc (.cells #[.int .i64 (part1 (lendB p q sep toR)).kind, .int .i64 (part1 (lendB p q sep toR)).level, .slice iG1 (part1 (lendB p q sep toR)).items.length icG1, .slice dG1 (part1 (lendB p q sep toR)).data.length dcG1, .int .i64 (part1 (lendB p q sep toR)).next] 26)).alloc (.cells #[.int .i64 (part2 (lendB p q sep toR)).kind, .int .i64 (part2 (lendB p q sep toR)).level, .slice iG2 (part2 (lendB p q sep toR)).items.length icG2, .slice dG2 (part2 (lendB p q sep toR)).data.length dcG2, .int .i64 (part2 (lendB p q sep toR)).next] 26)) (wB.heap.size) 3 _ _ _ BBB.out
      have bb4 := cell_of_row ((wG.alloc (.cells #[.int .i64 (part1 (lendB p q sep toR)).kind, .int .i64 (part1 (lendB p q sep toR)).level, .slice iG1 (part1 (lendB p q sep toR)).items.length icG1, .slice dG1 (part1 (lendB p q sep toR)).data.length dcG1, .int .i64 (part1 (lendB p q sep toR)).next] 26)).alloc (.cells #[.int .i64 (part2 (lendB p q sep toR)).kind, .int .i64 (part2 (lendB p q sep toR)).level, .slice iG2 (part2 (lendB p q sep toR)).items.length icG2, .slice dG2 (part2 (lendB p q sep toR)).data.length dcG2, .int .i64 (part2 (lendB p q sep toR)).next] 26)) (wB.heap.size) 4 _ _ _ BBB.out
      simp only [List.getElem?_toArray, List.getElem?_cons_zero, List.getElem?_cons_succ] at bb0 bb1 bb2 bb3 bb4
      have bc0 := cell_of_row ((wG.alloc (.cells #[.int .i64 (part1 (lendB p q sep toR)).kind, .int .i64 (part1 (lendB p q sep toR)).level, .slice iG1 (part1 (lendB p q sep toR)).items.length icG1, .slice dG1 (part1 (lendB p q sep toR)).data.length dcG1, .int .i64 (part1 (lendB p q sep toR)).next] 26)).alloc (.cells #[.int .i64 (part2 (lendB p q sep toR)).kind, .int .i64 (part2 (lendB p q sep toR)).level, .slice iG2 (part2 (lendB p q sep toR)).items.length icG2, .slice dG2 (part2 (lendB p q sep toR)).data.length dcG2, .int .i64 (part2 (lendB p q sep toR)).next] 26)) (wC.heap.size) 0 _ _ _ BBC.out
      have bc1 := cell_of_row ((wG.alloc (.cells #[.int .i64 (part1 (lendB p q sep toR)).kind, .int .i64 (part1 (lendB p q sep toR)).level, .slice iG1 (part1 (lendB p q sep toR)).items.length icG1, .slice dG1 (part1 (lendB p q sep toR)).data.length dcG1, .int .i64 (part1 (lendB p q sep toR)).next] 26)).alloc (.cells #[.int .i64 (part2 (lendB p q sep toR)).kind, .int .i64 (part2 (lendB p q sep toR)).level, .slice iG2 (part2 (lendB p q sep toR)).items.length icG2, .slice dG2 (part2 (lendB p q sep toR)).data.length dcG2, .int .i64 (part2 (lendB p q sep toR)).next] 26)) (wC.heap.size) 1 _ _ _ BBC.out
      have bc2 := cell_of_row ((wG.alloc (.cells #[.int .i64 (part1 (lendB p q sep toR)).kind, .int .i64 (part1 (lendB p q sep toR)).level, .slice iG1 (part1 (lendB p q sep toR)).items.length icG1, .slice dG1 (part1 (lendB p q sep toR)).data.length dcG1, .int .i64 (part1 (lendB p q sep toR)).next] 26)).alloc (.cells #[.int .i64 (part2 (lendB p q sep toR)).kind, .int .i64 (part2 (lendB p q sep toR)).level, .slice iG2 (part2 (lendB p q sep toR)).items.length icG2, .slice dG2 (part2 (lendB p q sep toR)).data.length dcG2, .int .i64 (part2 (lendB p q sep toR)).next] 26)) (wC.heap.size) 2 _ _ _ BBC.out
      have bc3 := cell_of_row ((wG.alloc (.cells #[.int .i64 (part1 (lendB p q sep toR)).kind, .int .i64 (part1 (lendB p q sep toR)).level, .slice iG1 (part1 (lendB p q sep toR)).items.length icG1, .slice dG1 (part1 (lendB p q sep toR)).data.length dcG1, .int .i64 (part1 (lendB p q sep toR)).next] 26)).alloc (.cells #[.int .i64 (part2 (lendB p q sep toR)).kind, .int .i64 (part2 (lendB p q sep toR)).level, .slice iG2 (part2 (lendB p q sep toR)).items.length icG2, .slice dG2 (part2 (lendB p q sep toR)).data.length dcG2, .int .i64 (part2 (lendB p q sep toR)).next] 26)) (wC.heap.size) 3 _ _ _ BBC.out
      have bc4 := cell_of_row ((wG.alloc (.cells #[.int .i64 (part1 (lendB p q sep toR)).kind, .int .i64 (part1 (lendB p q sep toR)).level, .slice iG1 (part1 (lendB p q sep toR)).items.length icG1, .slice dG1 (part1 (lendB p q sep toR)).data.length dcG1, .int .i64 (part1 (lendB p q sep toR)).next] 26)).alloc (.cells #[.int .i64 (part2 (lendB p q sep toR)).kind, .int .i64 (part2 (lendB p q sep toR)).level, .slice iG2 (part2 (lendB p q sep toR)).items.length icG2, .slice dG2 (part2 (lendB p q sep toR)).data.length dcG2, .int .i64 (part2 (lendB p q sep toR)).next] 26)) (wC.heap.size) 4 _ _ _ BBC.out
      simp only [List.getElem?_toArray, List.getElem?_cons_zero, List.getElem?_cons_succ] at bc0 bc1 bc2 bc3 bc4
      have bd10 := cell_of_row ((wG.alloc (.cells #[.int .i64 (part1 (lendB p q sep toR)).kind, .int .i64 (part1 (lendB p q sep toR)).level, .slice iG1 (part1 (lendB p q sep toR)).items.length icG1, .slice dG1 (part1 (lendB p q sep toR)).data.length dcG1, .int .i64 (part1 (lendB p q sep toR)).next] 26)).alloc (.cells #[.int .i64 (part2 (lendB p q sep toR)).kind, .int .i64 (part2 (lendB p q sep toR)).level, .slice iG2 (part2 (lendB p q sep toR)).items.length icG2, .slice dG2 (part2 (lendB p q sep toR)).data.length dcG2, .int .i64 (part2 (lendB p q sep toR)).next] 26)) (wD.heap.size) 0 _ _ _ BBD1.out
      have bd11 := cell_of_row ((wG.alloc (.cells #[.int .i64 (part1 (lendB p q sep toR)).kind, .int .i64 (part1 (lendB p q sep toR)).level, .slice iG1 (part1 (lendB p q sep toR)).items.length icG1, .slice dG1 (part1 (lendB p q sep toR)).data.length dcG1, .int .i64 (part1 (lendB p q sep toR)).next] 26)).alloc (.cells #[.int .i64 (part2 (lendB p q sep toR)).kind, .int .i64 (part2 (lendB p q sep toR)).level, .slice iG2 (part2 (lendB p q sep toR)).items.length icG2, .slice dG2 (part2 (lendB p q sep toR)).data.length dcG2, .int .i64 (part2 (lendB p q sep toR)).next] 26)) (wD.heap.size) 1 _ _ _ BBD1.out
      have bd12 := cell_of_row ((wG.alloc (.cells #[.int .i64 (part1 (lendB p q sep toR)).kind, .int .i64 (part1 (lendB p q sep toR)).level, .slice iG1 (part1 (lendB p q sep toR)).items.length icG1, .slice dG1 (part1 (lendB p q sep toR)).data.length dcG1, .int .i64 (part1 (lendB p q sep toR)).next] 26)).alloc (.cells #[.int .i64 (part2 (lendB p q sep toR)).kind, .int .i64 (part2 (lendB p q sep toR)).level, .slice iG2 (part2 (lendB p q sep toR)).items.length icG2, .slice dG2 (part2 (lendB p q sep toR)).data.length dcG2, .int .i64 (part2 (lendB p q sep toR)).next] 26)) (wD.heap.size) 2 _ _ _ BBD1.out
      have bd13 := cell_of_row ((wG.alloc (.cells #[.int .i64 (part1 (lendB p q sep toR)).kind, .int .i64 (part1 (lendB p q sep toR)).level, .slice iG1 (part1 (lendB p q sep toR)).items.length icG1, .slice dG1 (part1 (lendB p q sep toR)).data.length dcG1, .int .i64 (part1 (lendB p q sep toR)).next] 26)).alloc (.cells #[.int .i64 (part2 (lendB p q sep toR)).kind, .int .i64 (part2 (lendB p q sep toR)).level, .slice iG2 (part2 (lendB p q sep toR)).items.length icG2, .slice dG2 (part2 (lendB p q sep toR)).data.length dcG2, .int .i64 (part2 (lendB p q sep toR)).next] 26)) (wD.heap.size) 3 _ _ _ BBD1.out
      have bd14 := cell_of_row ((wG.alloc (.cells #[.int .i64 (part1 (lendB p q sep toR)).kind, .int .i64 (part1 (lendB p q sep toR)).level, .slice iG1 (part1 (lendB p q sep toR)).items.length icG1, .slice dG1 (part1 (lendB p q sep toR)).data.length dcG1, .int .i64 (part1 (lendB p q sep toR)).next] 26)).alloc (.cells #[.int .i64 (part2 (lendB p q sep toR)).kind, .int .i64 (part2 (lendB p q sep toR)).level, .slice iG2 (part2 (lendB p q sep toR)).items.length icG2, .slice dG2 (part2 (lendB p q sep toR)).data.length dcG2, .int .i64 (part2 (lendB p q sep toR)).next] 26)) (wD.heap.size) 4 _ _ _ BBD1.out
      simp only [List.getElem?_toArray, List.getElem?_cons_zero, List.getElem?_cons_succ] at bd10 bd11 bd12 bd13 bd14
      have bd20 := cell_of_row ((wG.alloc (.cells #[.int .i64 (part1 (lendB p q sep toR)).kind, .int .i64 (part1 (lendB p q sep toR)).level, .slice iG1 (part1 (lendB p q sep toR)).items.length icG1, .slice dG1 (part1 (lendB p q sep toR)).data.length dcG1, .int .i64 (part1 (lendB p q sep toR)).next] 26)).alloc (.cells #[.int .i64 (part2 (lendB p q sep toR)).kind, .int .i64 (part2 (lendB p q sep toR)).level, .slice iG2 (part2 (lendB p q sep toR)).items.length icG2, .slice dG2 (part2 (lendB p q sep toR)).data.length dcG2, .int .i64 (part2 (lendB p q sep toR)).next] 26)) (wD.heap.size + 1) 0 _ _ _ BBD2.out
      have bd21 := cell_of_row ((wG.alloc (.cells #[.int .i64 (part1 (lendB p q sep toR)).kind, .int .i64 (part1 (lendB p q sep toR)).level, .slice iG1 (part1 (lendB p q sep toR)).items.length icG1, .slice dG1 (part1 (lendB p q sep toR)).data.length dcG1, .int .i64 (part1 (lendB p q sep toR)).next] 26)).alloc (.cells #[.int .i64 (part2 (lendB p q sep toR)).kind, .int .i64 (part2 (lendB p q sep toR)).level, .slice iG2 (part2 (lendB p q sep toR)).items.length icG2, .slice dG2 (part2 (lendB p q sep toR)).data.length dcG2, .int .i64 (part2 (lendB p q sep toR)).next] 26)) (wD.heap.size + 1) 1 _ _ _ BBD2.out
      have bd22 := cell_of_row ((wG.alloc (.cells #[.int .i64 (part1 (lendB p q sep toR)).kind, .int .i64 (part1 (lendB p q sep toR)).level, .slice iG1 (part1 (lendB p q sep toR)).items.length icG1, .slice dG1 (part1 (lendB p q sep toR)).data.length dcG1, .int .i64 (part1 (lendB p q sep toR)).next] 26)).alloc (.cells #[.int .i64 (part2 (lendB p q sep toR)).kind, .int .i64 (part2 (lendB p q sep toR)).level, .slice iG2 (part2 (lendB p q sep toR)).items.length icG2, .slice dG2 (part2 (lendB p q sep toR)).data.length dcG2, .int .i64 (part2 (lendB p q sep toR)).next] 26)) (wD.heap.size + 1) 2 _ _ _ BBD2.out
      have bd23 := cell_of_row ((wG.alloc (.cells #[.int .i64 (part1 (lendB p q sep toR)).kind, .int .i64 (part1 (lendB p q sep toR)).level, .slice iG1 (part1 (lendB p q sep toR)).items.length icG1, .slice dG1 (part1 (lendB p q sep toR)).data.length dcG1, .int .i64 (part1 (lendB p q sep toR)).next] 26)).alloc (.cells #[.int .i64 (part2 (lendB p q sep toR)).kind, .int .i64 (part2 (lendB p q sep toR)).level, .slice iG2 (part2 (lendB p q sep toR)).items.length icG2, .slice dG2 (part2 (lendB p q sep toR)).data.length dcG2, .int .i64 (part2 (lendB p q sep toR)).next] 26)) (wD.heap.size + 1) 3 _ _ _ BBD2.out
      have bd24 := cell_of_row ((wG.alloc (.cells #[.int .i64 (part1 (lendB p q sep toR)).kind, .int .i64 (part1 (lendB p q sep toR)).level, .slice iG1 (part1 (lendB p q sep toR)).items.length icG1, .slice dG1 (part1 (lendB p q sep toR)).data.length dcG1, .int .i64 (part1 (lendB p q sep toR)).next] 26)).alloc (.cells #[.int .i64 (part2 (lendB p q sep toR)).kind, .int .i64 (part2 (lendB p q sep toR)).level, .slice iG2 (part2 (lendB p q sep toR)).items.length icG2, .slice dG2 (part2 (lendB p q sep toR)).data.length dcG2, .int .i64 (part2 (lendB p q sep toR)).next] 26)) (wD.heap.size + 1) 4 _ _ _ BBD2.out
      simp only [List.getElem?_toArray, List.getElem?_cons_zero, List.getElem?_cons_succ] at bd20 bd21 bd22 bd23 bd24
      have bf0 := cell_of_row ((wG.alloc (.cells #[.int .i64 (part1 (lendB p q sep toR)).kind, .int .i64 (part1 (lendB p q sep toR)).level, .slice iG1 (part1 (lendB p q sep toR)).items.length icG1, .slice dG1 (part1 (lendB p q sep toR)).data.length dcG1, .int .i64 (part1 (lendB p q sep toR)).next] 26)).alloc (.cells #[.int .i64 (part2 (lendB p q sep toR)).kind, .int .i64 (part2 (lendB p q sep toR)).level, .slice iG2 (part2 (lendB p q sep toR)).items.length icG2, .slice dG2 (part2 (lendB p q sep toR)).data.length dcG2, .int .i64 (part2 (lendB p q sep toR)).next] 26)) (wF.heap.size) 0 _ _ _ BBF.out
      have bf1 := cell_of_row ((wG.alloc (.cells #[.int .i64 (part1 (lendB p q sep toR)).kind, .int .i64 (part1 (lendB p q sep toR)).level, .slice iG1 (part1 (lendB p q sep toR)).items.length icG1, .slice dG1 (part1 (lendB p q sep toR)).data.length dcG1, .int .i64 (part1 (lendB p q sep toR)).next] 26)).alloc (.cells #[.int .i64 (part2 (lendB p q sep toR)).kind, .int .i64 (part2 (lendB p q sep toR)).level, .slice iG2 (part2 (lendB p q sep toR)).items.length icG2, .slice dG2 (part2 (lendB p q sep toR)).data.length dcG2, .int .i64 (part2 (lendB p q sep toR)).next] 26)) (wF.heap.size) 1 _ _ _ BBF.out
      have bf2 := cell_of_row ((wG.alloc (.cells #[.int .i64 (part1 (lendB p q sep toR)).kind, .int .i64 (part1 (lendB p q sep toR)).level, .slice iG1 (part1 (lendB p q sep toR)).items.length icG1, .slice dG1 (part1 (lendB p q sep toR)).data.length dcG1, .int .i64 (part1 (lendB p q sep toR)).next] 26)).alloc (.cells #[.int .i64 (part2 (lendB p q sep toR)).kind, .int .i64 (part2 (lendB p q sep toR)).level, .slice iG2 (part2 (lendB p q sep toR)).items.length icG2, .slice dG2 (part2 (lendB p q sep toR)).data.length dcG2, .int .i64 (part2 (lendB p q sep toR)).next] 26)) (wF.heap.size) 2 _ _ _ BBF.out
      have bf3 := cell_of_row ((wG.alloc (.cells #[.int .i64 (part1 (lendB p q sep toR)).kind, .int .i64 (part1 (lendB p q sep toR)).level, .slice iG1 (part1 (lendB p q sep toR)).items.length icG1, .slice dG1 (part1 (lendB p q sep toR)).data.length dcG1, .int .i64 (part1 (lendB p q sep toR)).next] 26)).alloc (.cells #[.int .i64 (part2 (lendB p q sep toR)).kind, .int .i64 (part2 (lendB p q sep toR)).level, .slice iG2 (part2 (lendB p q sep toR)).items.length icG2, .slice dG2 (part2 (lendB p q sep toR)).data.length dcG2, .int .i64 (part2 (lendB p q sep toR)).next] 26)) (wF.heap.size) 3 _ _ _ BBF.out
      have bf4 := cell_of_row ((wG.alloc (.cells #[.int .i64 (part1 (lendB p q sep toR)).kind, .int .i64 (part1 (lendB p q sep toR)).level, .slice iG1 (part1 (lendB p q sep toR)).items.length icG1, .slice dG1 (part1 (lendB p q sep toR)).data.length dcG1, .int .i64 (part1 (lendB p q sep toR)).next] 26)).alloc (.cells #[.int .i64 (part2 (lendB p q sep toR)).kind, .int .i64 (part2 (lendB p q sep toR)).level, .slice iG2 (part2 (lendB p q sep toR)).items.length icG2, .slice dG2 (part2 (lendB p q sep toR)).data.length dcG2, .int .i64 (part2 (lendB p q sep toR)).next] 26)) (wF.heap.size) 4 _ _ _ BBF.out
      simp only [List.getElem?_toArray, List.getElem?_cons_zero, List.getElem?_cons_succ] at bf0 bf1 bf2 bf3 bf4
      have bg10 := cell_of_row ((wG.alloc (.cells #[.int .i64 (part1 (lendB p q sep toR)).kind, .int .i64 (part1 (lendB p q sep toR)).level, .slice iG1 (part1 (lendB p q sep toR)).items.length icG1, .slice dG1 (part1 (lendB p q sep toR)).data.length dcG1, .int .i64 (part1 (lendB p q sep toR)).next] 26)).alloc (.cells #[.int .i64 (part2 (lendB p q sep toR)).kind, .int .i64 (part2 (lendB p q sep toR)).level, .slice iG2 (part2 (lendB p q sep toR)).items.length icG2, .slice dG2 (part2 (lendB p q sep toR)).data.length dcG2, .int .i64 (part2 (lendB p q sep toR)).next] 26)) (wG.heap.size) 0 _ _ _ BBG1.out
      have bg11 := cell_of_row ((wG.alloc (.cells #[.int .i64 (part1 (lendB p q sep toR)).kind, .int .i64 (part1 (lendB p q sep toR)).level, .slice iG1 (part1 (lendB p q sep toR)).items.length icG1, .slice dG1 (part1 (lendB p q sep toR)).data.length dcG1, .int .i64 (part1 (lendB p q sep toR)).next] 26)).alloc (.cells #[.int .i64 (part2 (lendB p q sep toR)).kind, .int .i64 (part2 (lendB p q sep toR)).level, .slice iG2 (part2 (lendB p q sep toR)).items.length icG2, .slice dG2 (part2 (lendB p q sep toR)).data.length dcG2, .int .i64 (part2 (lendB p q sep toR)).next] 26)) (wG.heap.size) 1 _ _ _ BBG1.out
      have bg12 := cell_of_row ((wG.alloc (.cells #[.int .i64 (part1 (lendB p q sep toR)).kind, .int .i64 (part1 (lendB p q sep toR)).level, .slice iG1 (part1 (lendB p q sep toR)).items.length icG1, .slice dG1 (part1 (lendB p q sep toR)).data.length dcG1, .int .i64 (part1 (lendB p q sep toR)).next] 26)).alloc (.cells #[.int .i64 (part2 (lendB p q sep toR)).kind, .int .i64 (part2 (lendB p q sep toR)).level, .slice iG2 (part2 (lendB p q sep toR)).items.length icG2, .slice dG2 (part2 (lendB p q sep toR)).data.length dcG2, .int .i64 (part2 (lendB p q sep toR)).next] 26)) (wG.heap.size) 2 _ _ _ BBG1.out
      have bg13 := cell_of_row ((wG.alloc (.cells #[.int .i64 (part1 (lendB p q sep toR)).kind, .int .i64 (part1 (lendB p q sep toR)).level, .slice iG1 (part1 (lendB p q sep toR)).items.length icG1, .slice dG1 (part1 (lendB p q sep toR)).data.length dcG1, .int .i64 (part1 (lendB p q sep toR)).next] 26)).alloc (.cells #[.int .i64 (part2 (lendB p q sep toR)).kind, .int .i64 (part2 (lendB p q sep toR)).level, .slice iG2 (part2 (lendB p q sep toR)).items.length icG2, .slice dG2 (part2 (lendB p q sep toR)).data.length dcG2, .int .i64 (part2 (lendB p q sep toR)).next] 26)) (wG.heap.size) 3 _ _ _ BBG1.out
      have bg14 := cell_of_row ((wG.alloc (.cells #[.int .i64 (part1 (lendB p q sep toR)).kind, .int .i64 (part1 (lendB p q sep toR)).level, .slice iG1 (part1 (lendB p q sep toR)).items.length icG1, .slice dG1 (part1 (lendB p q sep toR)).data.length dcG1, .int .i64 (part1 (lendB p q sep toR)).next] 26)).alloc (.cells #[.int .i64 (part2 (lendB p q sep toR)).kind, .int .i64 (part2 (lendB p q sep toR)).level, .slice iG2 (part2 (lendB p q sep toR)).items.length icG2, .slice dG2 (part2 (lendB p q sep toR)).data.length dcG2, .int .i64 (part2 (lendB p q sep toR)).next] 26)) (wG.heap.size) 4 _ _ _ BBG1.out
      simp only [List.getElem?_toArray, List.getElem?_cons_zero, List.getElem?_cons_succ] at bg10 bg11 bg12 bg13 bg14
      have bg20 := cell_of_row ((wG.alloc (.cells #[.int .i64 (part1 (lendB p q sep toR)).kind, .int .i64 (part1 (lendB p q sep toR)).level, .slice iG1 (part1 (lendB p q sep toR)).items.length icG1, .slice dG1 (part1 (lendB p q sep toR)).data.length dcG1, .int .i64 (part1 (lendB p q sep toR)).next] 26)).alloc (.cells #[.int .i64 (part2 (lendB p q sep toR)).kind, .int .i64 (part2 (lendB p q sep toR)).level, .slice iG2 (part2 (lendB p q sep toR)).items.length icG2, .slice dG2 (part2 (lendB p q sep toR)).data.length dcG2, .int .i64 (part2 (lendB p q sep toR)).next] 26)) (wG.heap.size + 1) 0 _ _ _ BBG2.out
      have bg21 := cell_of_row ((wG.alloc (.cells #[.int .i64 (part1 (lendB p q sep toR)).kind, .int .i64 (part1 (lendB p q sep toR)).level, .slice iG1 (part1 (lendB p q sep toR)).items.length icG1, .slice dG1 (part1 (lendB p q sep toR)).data.length dcG1, .int .i64 (part1 (lendB p q sep toR)).next] 26)).alloc (.cells #[.int .i64 (part2 (lendB p q sep toR)).kind, .int .i64 (part2 (lendB p q sep toR)).level, .slice iG2 (part2 (lendB p q sep toR)).items.length icG2, .slice dG2 (part2 (lendB p q sep toR)).data.length dcG2, .int .i64 (part2 (lendB p q sep toR)).next] 26)) (wG.heap.size + 1) 1 _ _ _ BBG2.out
      have bg22 := cell_of_row ((wG.alloc (.cells #[.int .i64 (part1 (lendB p q sep toR)).kind, .int .i64 (part1 (lendB p q sep toR)).level, .slice iG1 (part1 (lendB p q sep toR)).items.length icG1, .slice dG1 (part1 (lendB p q sep toR)).data.length dcG1, .int .i64 (part1 (lendB p q sep toR)).next] 26)).alloc (.cells #[.int .i64 (part2 (lendB p q sep toR)).kind, .int .i64 (part2 (lendB p q sep toR)).level, .slice iG2 (part2 (lendB p q sep toR)).items.length icG2, .slice dG2 (part2 (lendB p q sep toR)).data.length dcG2, .int .i64 (part2 (lendB p q sep toR)).next] 26)) (wG.heap.size + 1) 2 _ _ _ BBG2.out
      have bg23 := cell_of_row ((wG.alloc (.cells #[.int .i64 (part1 (lendB p q sep toR)).kind, .int .i64 (part1 (lendB p q sep toR)).level, .slice iG1 (part1 (lendB p q sep toR)).items.length icG1, .slice dG1 (part1 (lendB p q sep toR)).data.length dcG1, .int .i64 (part1 (lendB p q sep toR)).next] 26)).alloc (.cells #[.int .i64 (part2 (lendB p q sep toR)).kind, .int .i64 (part2 (lendB p q sep toR)).level, .slice iG2 (part2 (lendB p q sep toR)).items.length icG2, .slice dG2 (part2 (lendB p q sep toR)).data.length dcG2, .int .i64 (part2 (lendB p q sep toR)).next] 26)) (wG.heap.size + 1) 3 _ _ _ BBG2.out
      have bg24 := cell_of_row ((wG.alloc (.cells #[.int .i64 (part1 (lendB p q sep toR)).kind, .int .i64 (part1 (lendB p q sep toR)).level, .slice iG1 (part1 (lendB p q sep toR)).items.length icG1, .slice dG1 (part1 (lendB p q sep toR)).data.length dcG1, .int .i64 (part1 (lendB p q sep toR)).next] 26)).alloc (.cells #[.int .i64 (part2 (lendB p q sep toR)).kind, .int .i64 (part2 (lendB p q sep toR)).level, .slice iG2 (part2 (lendB p q sep toR)).items.length icG2, .slice dG2 (part2 (lendB p q sep toR)).data.length dcG2, .int .i64 (part2 (lendB p q sep toR)).next] 26)) (wG.heap.size + 1) 4 _ _ _ BBG2.out
      simp only [List.getElem?_toArray, List.getElem?_cons_zero, List.getElem?_cons_succ] at bg20 bg21 bg22 bg23 bg24
      have h1 : Ext wr ((wG.alloc (.cells #[.int .i64 (part1 (lendB p q sep toR)).kind, .int .i64 (part1 (lendB p q sep toR)).level, .slice iG1 (part1 (lendB p q sep toR)).items.length icG1, .slice dG1 (part1 (lendB p q sep toR)).data.length dcG1, .int .i64 (part1 (lendB p q sep toR)).next] 26)).alloc (.cells #[.int .i64 (part2 (lendB p q sep toR)).kind, .int .i64 (part2 (lendB p q sep toR)).level, .slice iG2 (part2 (lendB p q sep toR)).items.length icG2, .slice dG2 (part2 (lendB p q sep toR)).data.length dcG2, .int .i64 (part2 (lendB p q sep toR)).next] 26)) := (((((hEA.trans (ext_alloc _ _)).trans (hEB.trans (ext_alloc _ _))).trans (hEC.trans (ext_alloc _ _))).trans (hED.trans ((ext_alloc _ _).trans (ext_alloc _ _)))).trans (hEF.trans (ext_alloc _ _))).trans (hEG.trans ((ext_alloc _ _).trans (ext_alloc _ _)))
      have hrp : World.ownsRow ((wG.alloc (.cells #[.int .i64 (part1 (lendB p q sep toR)).kind, .int .i64 (part1 (lendB p q sep toR)).level, .slice iG1 (part1 (lendB p q sep toR)).items.length icG1, .slice dG1 (part1 (lendB p q sep toR)).data.length dcG1, .int .i64 (part1 (lendB p q sep toR)).next] 26)).alloc (.cells #[.int .i64 (part2 (lendB p q sep toR)).kind, .int .i64 (part2 (lendB p q sep toR)).level, .slice iG2 (part2 (lendB p q sep toR)).items.length icG2, .slice dG2 (part2 (lendB p q sep toR)).data.length dcG2, .int .i64 (part2 (lendB p q sep toR)).next] 26)) w6.heap.size 26 5 (.slice Ap nx cp) nx (X.flatMap fun a => vCells a.1) := own_ext HL.out.rp h1
      have hrn : World.ownsRow ((wG.alloc (.cells #[.int .i64 (part1 (lendB p q sep toR)).kind, .int .i64 (part1 (lendB p q sep toR)).level, .slice iG1 (part1 (lendB p q sep toR)).items.length icG1, .slice dG1 (part1 (lendB p q sep toR)).data.length dcG1, .int .i64 (part1 (lendB p q sep toR)).next] 26)).alloc (.cells #[.int .i64 (part2 (lendB p q sep toR)).kind, .int .i64 (part2 (lendB p q sep toR)).level, .slice iG2 (part2 (lendB p q sep toR)).items.length icG2, .slice dG2 (part2 (lendB p q sep toR)).data.length dcG2, .int .i64 (part2 (lendB p q sep toR)).next] 26)) w6.heap.size 24 1 (.slice An ny cn) ny (Y.map (·.1)) := own_ext HL.out.rn h1
      have HXG := Lib.hid hXG
      have HRP := Lib.hid hrp
      have HRN := Lib.hid hrn
      have hW6 : w6.heap.size ≤ wG.heap.size := (hXF.trans hEG).size
      have hnx : nx ≤ 16 ∧ ny ≤ 4 := by have := HN.out; omega
      have hp8 := heap_alloc_at ((wG.alloc (.cells #[.int .i64 (part1 (lendB p q sep toR)).kind, .int .i64 (part1 (lendB p q sep toR)).level, .slice iG1 (part1 (lendB p q sep toR)).items.length icG1, .slice dG1 (part1 (lendB p q sep toR)).data.length dcG1, .int .i64 (part1 (lendB p q sep toR)).next] 26)).alloc (.cells #[.int .i64 (part2 (lendB p q sep toR)).kind, .int .i64 (part2 (lendB p q sep toR)).level, .slice iG2 (part2 (lendB p q sep toR)).items.length icG2, .slice dG2 (part2 (lendB p q sep toR)).data.length dcG2, .int .i64 (part2 (lendB p q sep toR)).next] 26)) (.cells #[.int .i64 ((insB p at_ x).1).kind, .int .i64 ((insB p at_ x).1).level, .slice iA ((insB p at_ x).1).items.length icA, .slice dA ((insB p at_ x).1).data.length dcA, .int .i64 ((insB p at_ x).1).next, .int .i64 ((repB p at_ x).1).kind, .int .i64 ((repB p at_ x).1).level, .slice iB ((repB p at_ x).1).items.length icB, .slice dB ((repB p at_ x).1).data.length dcB, .int .i64 ((repB p at_ x).1).next, .int .i64 ((remB p at_).1).kind, .int .i64 ((remB p at_).1).level, .slice iC ((remB p at_).1).items.length icC, .slice dC ((remB p at_).1).data.length dcC, .int .i64 ((remB p at_).1).next, .int .i64 (part1 (splitB p)).kind, .int .i64 (part1 (splitB p)).level, .slice iD1 (part1 (splitB p)).items.length icD1, .slice dD1 (part1 (splitB p)).data.length dcD1, .int .i64 (part1 (splitB p)).next, .int .i64 (part2 (splitB p)).kind, .int .i64 (part2 (splitB p)).level, .slice iD2 (part2 (splitB p)).items.length icD2, .slice dD2 (part2 (splitB p)).data.length dcD2, .int .i64 (part2 (splitB p)).next, .int .i64 ((joinB p q sep).1).kind, .int .i64 ((joinB p q sep).1).level, .slice iF ((joinB p q sep).1).items.length icF, .slice dF ((joinB p q sep).1).data.length dcF, .int .i64 ((joinB p q sep).1).next, .int .i64 (part1 (lendB p q sep toR)).kind, .int .i64 (part1 (lendB p q sep toR)).level, .slice iG1 (part1 (lendB p q sep toR)).items.length icG1, .slice dG1 (part1 (lendB p q sep toR)).data.length dcG1, .int .i64 (part1 (lendB p q sep toR)).next, .int .i64 (part2 (lendB p q sep toR)).kind, .int .i64 (part2 (lendB p q sep toR)).level, .slice iG2 (part2 (lendB p q sep toR)).items.length icG2, .slice dG2 (part2 (lendB p q sep toR)).data.length dcG2, .int .i64 (part2 (lendB p q sep toR)).next] 26) (wG.heap.size + 1 + 1) (by simp)
      have hnews : ∀ j u, ([.int .i64 ((insB p at_ x).1).kind, .int .i64 ((insB p at_ x).1).level, .slice iA ((insB p at_ x).1).items.length icA, .slice dA ((insB p at_ x).1).data.length dcA, .int .i64 ((insB p at_ x).1).next, .int .i64 ((repB p at_ x).1).kind, .int .i64 ((repB p at_ x).1).level, .slice iB ((repB p at_ x).1).items.length icB, .slice dB ((repB p at_ x).1).data.length dcB, .int .i64 ((repB p at_ x).1).next, .int .i64 ((remB p at_).1).kind, .int .i64 ((remB p at_).1).level, .slice iC ((remB p at_).1).items.length icC, .slice dC ((remB p at_).1).data.length dcC, .int .i64 ((remB p at_).1).next, .int .i64 (part1 (splitB p)).kind, .int .i64 (part1 (splitB p)).level, .slice iD1 (part1 (splitB p)).items.length icD1, .slice dD1 (part1 (splitB p)).data.length dcD1, .int .i64 (part1 (splitB p)).next, .int .i64 (part2 (splitB p)).kind, .int .i64 (part2 (splitB p)).level, .slice iD2 (part2 (splitB p)).items.length icD2, .slice dD2 (part2 (splitB p)).data.length dcD2, .int .i64 (part2 (splitB p)).next, .int .i64 ((joinB p q sep).1).kind, .int .i64 ((joinB p q sep).1).level, .slice iF ((joinB p q sep).1).items.length icF, .slice dF ((joinB p q sep).1).data.length dcF, .int .i64 ((joinB p q sep).1).next, .int .i64 (part1 (lendB p q sep toR)).kind, .int .i64 (part1 (lendB p q sep toR)).level, .slice iG1 (part1 (lendB p q sep toR)).items.length icG1, .slice dG1 (part1 (lendB p q sep toR)).data.length dcG1, .int .i64 (part1 (lendB p q sep toR)).next, .int .i64 (part2 (lendB p q sep toR)).kind, .int .i64 (part2 (lendB p q sep toR)).level, .slice iG2 (part2 (lendB p q sep toR)).items.length icG2, .slice dG2 (part2 (lendB p q sep toR)).data.length dcG2, .int .i64 (part2 (lendB p q sep toR)).next] : List Value)[j]? = some u → (World.alloc ((wG.alloc (.cells #[.int .i64 (part1 (lendB p q sep toR)).kind, .int .i64 (part1 (lendB p q sep toR)).level, .slice iG1 (part1 (lendB p q sep toR)).items.length icG1, .slice dG1 (part1 (lendB p q sep toR)).data.length dcG1, .int .i64 (part1 (lendB p q sep toR)).next] 26)).alloc (.cells #[.int .i64 (part2 (lendB p q sep toR)).kind, .int .i64 (part2 (lendB p q sep toR)).level, .slice iG2 (part2 (lendB p q sep toR)).items.length icG2, .slice dG2 (part2 (lendB p q sep toR)).data.length dcG2, .int .i64 (part2 (lendB p q sep toR)).next] 26)) (.cells #[.int .i64 ((insB p at_ x).1).kind, .int .i64 ((insB p at_ x).1).level, .slice iA ((insB p at_ x).1).items.length icA, .slice dA ((insB p at_ x).1).data.length dcA, .int .i64 ((insB p at_ x).1).next, .int .i64 ((repB p at_ x).1).kind, .int .i64 ((repB p at_ x).1).level, .slice iB ((repB p at_ x).1).items.length icB, .slice dB ((repB p at_ x).1).data.length dcB, .int .i64 ((repB p at_ x).1).next, .int .i64 ((remB p at_).1).kind, .int .i64 ((remB p at_).1).level, .slice iC ((remB p at_).1).items.length icC, .slice dC ((remB p at_).1).data.length dcC, .int .i64 ((remB p at_).1).next, .int .i64 (part1 (splitB p)).kind, .int .i64 (part1 (splitB p)).level, .slice iD1 (part1 (splitB p)).items.length icD1, .slice dD1 (part1 (splitB p)).data.length dcD1, .int .i64 (part1 (splitB p)).next, .int .i64 (part2 (splitB p)).kind, .int .i64 (part2 (splitB p)).level, .slice iD2 (part2 (splitB p)).items.length icD2, .slice dD2 (part2 (splitB p)).data.length dcD2, .int .i64 (part2 (splitB p)).next, .int .i64 ((joinB p q sep).1).kind, .int .i64 ((joinB p q sep).1).level, .slice iF ((joinB p q sep).1).items.length icF, .slice dF ((joinB p q sep).1).data.length dcF, .int .i64 ((joinB p q sep).1).next, .int .i64 (part1 (lendB p q sep toR)).kind, .int .i64 (part1 (lendB p q sep toR)).level, .slice iG1 (part1 (lendB p q sep toR)).items.length icG1, .slice dG1 (part1 (lendB p q sep toR)).data.length dcG1, .int .i64 (part1 (lendB p q sep toR)).next, .int .i64 (part2 (lendB p q sep toR)).kind, .int .i64 (part2 (lendB p q sep toR)).level, .slice iG2 (part2 (lendB p q sep toR)).items.length icG2, .slice dG2 (part2 (lendB p q sep toR)).data.length dcG2, .int .i64 (part2 (lendB p q sep toR)).next] 26)).cell? ((⟨wG.heap.size + 1 + 1, 0, none⟩ : Addr).add j) = some u := fun j u hj => by
        rw [Addr.add_lit, cell_of_row _ _ _ _ _ _ hp8, Nat.zero_add]
        simpa using hj
      have HNEWS := Lib.hid hnews
      clear h1 hrp hrn hp8 hnews hXA hXB hXC hXD hXF hXG hEA hEB hEC hED hEF hEG hE0
      go_wp2_with (first | (at_builtin; refine wpList_append_own _ rfl _ _ 61 rfl w6.heap.size 26 i2 _ 5 72 Try.underlying61 hi2 hz0 hz1 hz2 rfl (by decide) _ _ _ rfl (HRP.out.alloc _) ⟨wG.heap.size + 1 + 1, 0, none⟩ 8 8 [.int .i64 ((insB p at_ x).1).kind, .int .i64 ((insB p at_ x).1).level, .slice iA ((insB p at_ x).1).items.length icA, .slice dA ((insB p at_ x).1).data.length dcA, .int .i64 ((insB p at_ x).1).next, .int .i64 ((repB p at_ x).1).kind, .int .i64 ((repB p at_ x).1).level, .slice iB ((repB p at_ x).1).items.length icB, .slice dB ((repB p at_ x).1).data.length dcB, .int .i64 ((repB p at_ x).1).next, .int .i64 ((remB p at_).1).kind, .int .i64 ((remB p at_).1).level, .slice iC ((remB p at_).1).items.length icC, .slice dC ((remB p at_).1).data.length dcC, .int .i64 ((remB p at_).1).next, .int .i64 (part1 (splitB p)).kind, .int .i64 (part1 (splitB p)).level, .slice iD1 (part1 (splitB p)).items.length icD1, .slice dD1 (part1 (splitB p)).data.length dcD1, .int .i64 (part1 (splitB p)).next, .int .i64 (part2 (splitB p)).kind, .int .i64 (part2 (splitB p)).level, .slice iD2 (part2 (splitB p)).items.length icD2, .slice dD2 (part2 (splitB p)).data.length dcD2, .int .i64 (part2 (splitB p)).next, .int .i64 ((joinB p q sep).1).kind, .int .i64 ((joinB p q sep).1).level, .slice iF ((joinB p q sep).1).items.length icF, .slice dF ((joinB p q sep).1).data.length dcF, .int .i64 ((joinB p q sep).1).next, .int .i64 (part1 (lendB p q sep toR)).kind, .int .i64 (part1 (lendB p q sep toR)).level, .slice iG1 (part1 (lendB p q sep toR)).items.length icG1, .slice dG1 (part1 (lendB p q sep toR)).data.length dcG1, .int .i64 (part1 (lendB p q sep toR)).next, .int .i64 (part2 (lendB p q sep toR)).kind, .int .i64 (part2 (lendB p q sep toR)).level, .slice iG2 (part2 (lendB p q sep toR)).items.length icG2, .slice dG2 (part2 (lendB p q sep toR)).data.length dcG2, .int .i64 (part2 (lendB p q sep toR)).next] rfl rfl HNEWS.out (by simp [Value.oneCell']) (by simp [maxLen]; omega) (by omega) (by simp; omega) ?_; intro v7 w7 ho7 hg7 _; have hrn7 := keep_row hg7 (fun q hq => own_blk (HRP.out.alloc _) hq) (by decide) _ _ _ (HRN.out.alloc (.cells #[.int .i64 ((insB p at_ x).1).kind, .int .i64 ((insB p at_ x).1).level, .slice iA ((insB p at_ x).1).items.length icA, .slice dA ((insB p at_ x).1).data.length dcA, .int .i64 ((insB p at_ x).1).next, .int .i64 ((repB p at_ x).1).kind, .int .i64 ((repB p at_ x).1).level, .slice iB ((repB p at_ x).1).items.length icB, .slice dB ((repB p at_ x).1).data.length dcB, .int .i64 ((repB p at_ x).1).next, .int .i64 ((remB p at_).1).kind, .int .i64 ((remB p at_).1).level, .slice iC ((remB p at_).1).items.length icC, .slice dC ((remB p at_).1).data.length dcC, .int .i64 ((remB p at_).1).next, .int .i64 (part1 (splitB p)).kind, .int .i64 (part1 (splitB p)).level, .slice iD1 (part1 (splitB p)).items.length icD1, .slice dD1 (part1 (splitB p)).data.length dcD1, .int .i64 (part1 (splitB p)).next, .int .i64 (part2 (splitB p)).kind, .int .i64 (part2 (splitB p)).level, .slice iD2 (part2 (splitB p)).items.length icD2, .slice dD2 (part2 (splitB p)).data.length dcD2, .int .i64 (part2 (splitB p)).next, .int .i64 ((joinB p q sep).1).kind, .int .i64 ((joinB p q sep).1).level, .slice iF ((joinB p q sep).1).items.length icF, .slice dF ((joinB p q sep).1).data.length dcF, .int .i64 ((joinB p q sep).1).next, .int .i64 (part1 (lendB p q sep toR)).kind, .int .i64 (part1 (lendB p q sep toR)).level, .slice iG1 (part1 (lendB p q sep toR)).items.length icG1, .slice dG1 (part1 (lendB p q sep toR)).data.length dcG1, .int .i64 (part1 (lendB p q sep toR)).next, .int .i64 (part2 (lendB p q sep toR)).kind, .int .i64 (part2 (lendB p q sep toR)).level, .slice iG2 (part2 (lendB p q sep toR)).items.length icG2, .slice dG2 (part2 (lendB p q sep toR)).data.length dcG2, .int .i64 (part2 (lendB p q sep toR)).next] 26)); have hE7 := ext_append HXG.out HRP.out hg7; obtain ⟨A7, c7, rfl⟩ := slice_of_own ho7; have hW7 := hE7.size) | (at_builtin; refine wpList_append_own _ rfl _ _ 27 rfl w6.heap.size 24 i1 _ 1 24 Try.underlying27 hi1 hy0 hy1 hy2 rfl (by decide) _ _ _ rfl (hrn7.alloc _) ⟨w7.heap.size, 0, none⟩ 2 2 [.slice sAD (part3 (splitB p)).length scD, .slice sAG (part3 (lendB p q sep toR)).length scG] rfl rfl (news_row w7 _ _ _) (by simp [Value.oneCell']) (by simp [maxLen]; omega) (by omega) (by simp; omega) ?_; intro v9 w9 ho9 hg9 _))
      obtain ⟨A9, c9, rfl⟩ := slice_of_own ho9
      have hx7 : Exc (fun _ o => ∃ cs fr, o = Obj.cells cs 26 fr) _ w7 := Exc.of_grown hg7 (fun g o h1 h2 => by obtain ⟨_, cs, hc⟩ := own_blk (HRP.out.alloc (.cells #[.int .i64 ((insB p at_ x).1).kind, .int .i64 ((insB p at_ x).1).level, .slice iA ((insB p at_ x).1).items.length icA, .slice dA ((insB p at_ x).1).data.length dcA, .int .i64 ((insB p at_ x).1).next, .int .i64 ((repB p at_ x).1).kind, .int .i64 ((repB p at_ x).1).level, .slice iB ((repB p at_ x).1).items.length icB, .slice dB ((repB p at_ x).1).data.length dcB, .int .i64 ((repB p at_ x).1).next, .int .i64 ((remB p at_).1).kind, .int .i64 ((remB p at_).1).level, .slice iC ((remB p at_).1).items.length icC, .slice dC ((remB p at_).1).data.length dcC, .int .i64 ((remB p at_).1).next, .int .i64 (part1 (splitB p)).kind, .int .i64 (part1 (splitB p)).level, .slice iD1 (part1 (splitB p)).items.length icD1, .slice dD1 (part1 (splitB p)).data.length dcD1, .int .i64 (part1 (splitB p)).next, .int .i64 (part2 (splitB p)).kind, .int .i64 (part2 (splitB p)).level, .slice iD2 (part2 (splitB p)).items.length icD2, .slice dD2 (part2 (splitB p)).data.length dcD2, .int .i64 (part2 (splitB p)).next, .int .i64 ((joinB p q sep).1).kind, .int .i64 ((joinB p q sep).1).level, .slice iF ((joinB p q sep).1).items.length icF, .slice dF ((joinB p q sep).1).data.length dcF, .int .i64 ((joinB p q sep).1).next, .int .i64 (part1 (lendB p q sep toR)).kind, .int .i64 (part1 (lendB p q sep toR)).level, .slice iG1 (part1 (lendB p q sep toR)).items.length icG1, .slice dG1 (part1 (lendB p q sep toR)).data.length dcG1, .int .i64 (part1 (lendB p q sep toR)).next, .int .i64 (part2 (lendB p q sep toR)).kind, .int .i64 (part2 (lendB p q sep toR)).level, .slice iG2 (part2 (lendB p q sep toR)).items.length icG2, .slice dG2 (part2 (lendB p q sep toR)).data.length dcG2, .int .i64 (part2 (lendB p q sep toR)).next] 26)) h1; rw [hc] at h2; injection h2 with h2; exact ⟨_, _, h2.symm⟩)
      have hx9 : Exc (fun _ o => ∃ cs fr, o = Obj.cells cs 24 fr) _ w9 := Exc.of_grown hg9 (fun g o h1 h2 => by obtain ⟨_, cs, hc⟩ := own_blk (hrn7.alloc _) h1; rw [hc] at h2; injection h2 with h2; exact ⟨_, _, h2.symm⟩)
      have hlot := (((HJG.out.ext (ext_alloc _ (.cells #[.int .i64 ((insB p at_ x).1).kind, .int .i64 ((insB p at_ x).1).level, .slice iA ((insB p at_ x).1).items.length icA, .slice dA ((insB p at_ x).1).data.length dcA, .int .i64 ((insB p at_ x).1).next, .int .i64 ((repB p at_ x).1).kind, .int .i64 ((repB p at_ x).1).level, .slice iB ((repB p at_ x).1).items.length icB, .slice dB ((repB p at_ x).1).data.length dcB, .int .i64 ((repB p at_ x).1).next, .int .i64 ((remB p at_).1).kind, .int .i64 ((remB p at_).1).level, .slice iC ((remB p at_).1).items.length icC, .slice dC ((remB p at_).1).data.length dcC, .int .i64 ((remB p at_).1).next, .int .i64 (part1 (splitB p)).kind, .int .i64 (part1 (splitB p)).level, .slice iD1 (part1 (splitB p)).items.length icD1, .slice dD1 (part1 (splitB p)).data.length dcD1, .int .i64 (part1 (splitB p)).next, .int .i64 (part2 (splitB p)).kind, .int .i64 (part2 (splitB p)).level, .slice iD2 (part2 (splitB p)).items.length icD2, .slice dD2 (part2 (splitB p)).data.length dcD2, .int .i64 (part2 (splitB p)).next, .int .i64 ((joinB p q sep).1).kind, .int .i64 ((joinB p q sep).1).level, .slice iF ((joinB p q sep).1).items.length icF, .slice dF ((joinB p q sep).1).data.length dcF, .int .i64 ((joinB p q sep).1).next, .int .i64 (part1 (lendB p q sep toR)).kind, .int .i64 (part1 (lendB p q sep toR)).level, .slice iG1 (part1 (lendB p q sep toR)).items.length icG1, .slice dG1 (part1 (lendB p q sep toR)).data.length dcG1, .int .i64 (part1 (lendB p q sep toR)).next, .int .i64 (part2 (lendB p q sep toR)).kind, .int .i64 (part2 (lendB p q sep toR)).level, .slice iG2 (part2 (lendB p q sep toR)).items.length icG2, .slice dG2 (part2 (lendB p q sep toR)).data.length dcG2, .int .i64 (part2 (lendB p q sep toR)).next] 26))).exc hx7 (fun k cs _ ⟨_, _, e⟩ => by injection e with _ e; exact absurd e (by decide)) (fun k cs _ ⟨_, _, e⟩ => by injection e with _ e; exact absurd e (by decide))).ext (ext_alloc w7 _)).exc hx9 (fun k cs _ ⟨_, _, e⟩ => by injection e with _ e; exact absurd e (by decide)) (fun k cs _ ⟨_, _, e⟩ => by injection e with _ e; exact absurd e (by decide))
      simp only [List.append_assoc, List.cons_append, List.nil_append, List.append_nil] at hlot
      have hfl : FrL w6 w9 (X ++ [((.agg #[.int .i64 ((insB p at_ x).1).kind, .int .i64 ((insB p at_ x).1).level, .slice iA ((insB p at_ x).1).items.length icA, .slice dA ((insB p at_ x).1).data.length dcA, .int .i64 ((insB p at_ x).1).next] : Value), (insB p at_ x).1), ((.agg #[.int .i64 ((repB p at_ x).1).kind, .int .i64 ((repB p at_ x).1).level, .slice iB ((repB p at_ x).1).items.length icB, .slice dB ((repB p at_ x).1).data.length dcB, .int .i64 ((repB p at_ x).1).next] : Value), (repB p at_ x).1), ((.agg #[.int .i64 ((remB p at_).1).kind, .int .i64 ((remB p at_).1).level, .slice iC ((remB p at_).1).items.length icC, .slice dC ((remB p at_).1).data.length dcC, .int .i64 ((remB p at_).1).next] : Value), (remB p at_).1), ((.agg #[.int .i64 (part1 (splitB p)).kind, .int .i64 (part1 (splitB p)).level, .slice iD1 (part1 (splitB p)).items.length icD1, .slice dD1 (part1 (splitB p)).data.length dcD1, .int .i64 (part1 (splitB p)).next] : Value), part1 (splitB p)), ((.agg #[.int .i64 (part2 (splitB p)).kind, .int .i64 (part2 (splitB p)).level, .slice iD2 (part2 (splitB p)).items.length icD2, .slice dD2 (part2 (splitB p)).data.length dcD2, .int .i64 (part2 (splitB p)).next] : Value), part2 (splitB p)), ((.agg #[.int .i64 ((joinB p q sep).1).kind, .int .i64 ((joinB p q sep).1).level, .slice iF ((joinB p q sep).1).items.length icF, .slice dF ((joinB p q sep).1).data.length dcF, .int .i64 ((joinB p q sep).1).next] : Value), (joinB p q sep).1), ((.agg #[.int .i64 (part1 (lendB p q sep toR)).kind, .int .i64 (part1 (lendB p q sep toR)).level, .slice iG1 (part1 (lendB p q sep toR)).items.length icG1, .slice dG1 (part1 (lendB p q sep toR)).data.length dcG1, .int .i64 (part1 (lendB p q sep toR)).next] : Value), part1 (lendB p q sep toR)), ((.agg #[.int .i64 (part2 (lendB p q sep toR)).kind, .int .i64 (part2 (lendB p q sep toR)).level, .slice iG2 (part2 (lendB p q sep toR)).items.length icG2, .slice dG2 (part2 (lendB p q sep toR)).data.length dcG2, .int .i64 (part2 (lendB p q sep toR)).next] : Value), part2 (lendB p q sep toR))]) (Y ++ [(.slice sAD (part3 (splitB p)).length scD, part3 (splitB p)), (.slice sAG (part3 (lendB p q sep toR)).length scG, part3 (lendB p q sep toR))]) A9 (ny + 2) c9 A7 (nx + 8) c7 := by
        refine ⟨ext_append hE7 hrn7 hg9, by rw [List.map_append]; exact ho9, ?_, hlot, fun a ha => ?_, fun y hy => ?_⟩
        · rw [List.flatMap_append]; exact keep_row hg9 (fun q hq => own_blk (hrn7.alloc _) hq) (by decide) _ _ _ (ho7.alloc _)
        · rcases List.mem_append.1 ha with ha | ha
          · exact HL.out.bd a ha
          · simp only [List.mem_cons, List.not_mem_nil, or_false] at ha
            rcases ha with rfl | rfl | rfl | rfl | rfl | rfl | rfl | rfl
            · exact HB1.out.ins HB4.out
            · exact HB1.out.rep HB4.out
            · exact HB1.out.rem
            · exact HB1.out.split_.1
            · exact HB1.out.split_.2.1
            · exact HB1.out.join HB2.out HB3.out
            · exact (HB1.out.lend HB2.out HB3.out).1
            · exact (HB1.out.lend HB2.out HB3.out).2.1
        · rcases List.mem_append.1 hy with hy | hy
          · exact HL.out.bdy y hy
          · simp only [List.mem_cons, List.not_mem_nil, or_false] at hy
            rcases hy with rfl | rfl
            · exact HB1.out.split_.2.2
            · exact (HB1.out.lend HB2.out HB3.out).2.2
      have HFL := Lib.hid hfl
      have HN2 : Hid (ny + 2 = 2 * (k + 1) ∧ nx + 8 = 8 * (k + 1) ∧ (Y ++ [((.slice sAD (part3 (splitB p)).length scD : Value), part3 (splitB p)), (.slice sAG (part3 (lendB p q sep toR)).length scG, part3 (lendB p q sep toR))]).length = ny + 2 ∧ (X ++ [((.agg #[.int .i64 ((insB p at_ x).1).kind, .int .i64 ((insB p at_ x).1).level, .slice iA ((insB p at_ x).1).items.length icA, .slice dA ((insB p at_ x).1).data.length dcA, .int .i64 ((insB p at_ x).1).next] : Value), (insB p at_ x).1), ((.agg #[.int .i64 ((repB p at_ x).1).kind, .int .i64 ((repB p at_ x).1).level, .slice iB ((repB p at_ x).1).items.length icB, .slice dB ((repB p at_ x).1).data.length dcB, .int .i64 ((repB p at_ x).1).next] : Value), (repB p at_ x).1), ((.agg #[.int .i64 ((remB p at_).1).kind, .int .i64 ((remB p at_).1).level, .slice iC ((remB p at_).1).items.length icC, .slice dC ((remB p at_).1).data.length dcC, .int .i64 ((remB p at_).1).next] : Value), (remB p at_).1), ((.agg #[.int .i64 (part1 (splitB p)).kind, .int .i64 (part1 (splitB p)).level, .slice iD1 (part1 (splitB p)).items.length icD1, .slice dD1 (part1 (splitB p)).data.length dcD1, .int .i64 (part1 (splitB p)).next] : Value), part1 (splitB p)), ((.agg #[.int .i64 (part2 (splitB p)).kind, .int .i64 (part2 (splitB p)).level, .slice iD2 (part2 (splitB p)).items.length icD2, .slice dD2 (part2 (splitB p)).data.length dcD2, .int .i64 (part2 (splitB p)).next] : Value), part2 (splitB p)), ((.agg #[.int .i64 ((joinB p q sep).1).kind, .int .i64 ((joinB p q sep).1).level, .slice iF ((joinB p q sep).1).items.length icF, .slice dF ((joinB p q sep).1).data.length dcF, .int .i64 ((joinB p q sep).1).next] : Value), (joinB p q sep).1), ((.agg #[.int .i64 (part1 (lendB p q sep toR)).kind, .int .i64 (part1 (lendB p q sep toR)).level, .slice iG1 (part1 (lendB p q sep toR)).items.length icG1, .slice dG1 (part1 (lendB p q sep toR)).data.length dcG1, .int .i64 (part1 (lendB p q sep toR)).next] : Value), part1 (lendB p q sep toR)), ((.agg #[.int .i64 (part2 (lendB p q sep toR)).kind, .int .i64 (part2 (lendB p q sep toR)).level, .slice iG2 (part2 (lendB p q sep toR)).items.length icG2, .slice dG2 (part2 (lendB p q sep toR)).data.length dcG2, .int .i64 (part2 (lendB p q sep toR)).next] : Value), part2 (lendB p q sep toR))]).length = nx + 8) := by
        obtain ⟨h1, h2, h3, h4⟩ := HN.out
        refine Lib.hid ⟨by omega, by omega, by rw [List.length_append, h3]; rfl, by rw [List.length_append, h4]; rfl⟩
      clear hfl hlot hx7 hx9 ho9 hg9 ho7 hg7 hrn7 hE7
      go_roundw
      case rel => exact ⟨k + 1, _, _, A9, c9, A7, c7, ny + 2, nx + 8, by omega, HN2, by go_num, rfl, rfl, HFL.out⟩
      case measure => simp [intOf]; omega
    · obtain rfl : k = 2 := by omega
      obtain ⟨hn1, hn2, hn3, hn4⟩ := HN.out
      have hE := HL.out.e
      obtain ⟨ds, hdX, hok, hsY, hpw, hrw⟩ := HL.out.lot.ex
      have hdl : ds.length = 16 := by
        have := congrArg List.length hdX
        rw [List.length_map] at this; omega
      obtain rfl : nx = 16 := by omega
      obtain rfl : ny = 4 := by omega
      have hrp : wr.ownsRow w6.heap.size 26 5 (.slice Ap 16 cp) 16 (ds.flatMap c5) := by
        have h0 := HL.out.rp
        have e : X.flatMap (fun a => vCells a.1) = ds.flatMap c5 := by
          rw [← hdX, List.flatMap_map]
          rfl
        rw [e] at h0; exact h0
      have hbs : ∀ d ∈ ds, BS 2097152 d.p := fun d hd => by
        have : (d.v, d.p) ∈ X := by rw [← hdX]; exact List.mem_map.2 ⟨d, hd, rfl⟩
        exact HL.out.bd _ this
      have hbl : ∀ d ∈ ds, d.bytes.length ≤ 4194305 := fun d hd => by
        have h1 := PgD.Ok.len (hok d hd)
        have h2 := (hbs d hd).n
        omega
      have HOK := Lib.hid hok
      have HBL := Lib.hid hbl
      have HDL := Lib.hid hdl
      have HYL := Lib.hid hn3
      have hA0 : LsA w6 wr wr An 4 cn (Y.map (·.1)) Ap 16 cp (ds.flatMap c5) := ⟨HL.out.rn, hrp, exc_refl _ _⟩
      obtain ⟨gp, cpp, hgA, hgB, hgC⟩ := World.ownsRow.form hrp (by decide)
      have hcp : 16 ≤ cp := by
        rcases hrp.2 with ⟨h0, _⟩ | ⟨g', cap, cur, hv, _, _, hle, _⟩
        · cases h0
        · injection hv with _ _ hc; omega
      injection hgA with hgA _ hcc
      subst hgA hcc
      have HPW := Lib.hid hpw
      have HRW := Lib.hid hrw
      have HBS := Lib.hid hbs
      have HSY := Lib.hid hsY
      clear hok hbl hdl hn1 hn2 hn3 hn4 hrp hgB hgC hpw hrw hbs hsY hdX hE0
      go_wp2
      go_loopw [11, 30] (fun l ii W => ∃ (k n : Nat) (A : Option Addr) (c : Nat), k ≤ 16 ∧ ii = .int .i64 k ∧ l = .slice A n c ∧ Hid (n = 4 + ((ds.take k).flatMap PgD.bytes).length) ∧ LsA w6 wr W A n c (Y.map (·.1) ++ (ds.take k).flatMap PgD.bytes) (some ⟨gp, 0, none⟩) 16 cp (ds.flatMap c5)) (fun _ ii _ => 16 - (intOf ii).toNat)
      case atStart => exact ⟨0, 4, An, cn, by omega, rfl, rfl, Lib.hid rfl, by simpa using hA0⟩
      case round =>
        clear hA0
        rename World => W
        obtain ⟨k, n, A, c, hk, rfl, rfl, HN, hA⟩ := hrel
        have HN0 := HN.out
        have hW := hA.x.size
        have hcn : n ≤ 67108884 := by
          have h1 := bytes_len (ds := ds.take k) (fun d hd => HBL.out d (List.mem_of_mem_take hd))
          have h2 : (ds.take k).length ≤ 16 := by rw [List.length_take]; omega
          have : (ds.take k).length * 4194305 ≤ 16 * 4194305 := Nat.mul_le_mul_right _ h2
          omega
        by_cases hlt : k < 16
        · have hki : (k : Int) < 16 := by omega
          obtain ⟨d, hd⟩ : ∃ d, ds[k]? = some d := ⟨_, List.getElem?_eq_getElem (by rw [HDL.out]; exact hlt)⟩
          have hmem := List.mem_of_getElem? hd
          have hcell : ∀ j, j < 5 → W.cell? ⟨gp, k * 5 + j, none⟩ = (c5 d)[j]? := fun j hj => by
            rw [World.ownsRow.cellAt hA.pg (k * 5 + j) (by omega)]
            exact flat5 (fun _ => rfl) ds k j d hd hj
          have z0 := hcell 0 (by decide)
          have z1 := hcell 1 (by decide)
          have z2 := hcell 2 (by decide)
          have z3 := hcell 3 (by decide)
          have z4 := hcell 4 (by decide)
          simp only [c5, Nat.add_zero, List.getElem?_cons_zero, List.getElem?_cons_succ] at z0 z1 z2 z3 z4
          have hkc : k < cp := by omega
          have hokW := (HOK.out d hmem).exc hA.x (fun _ _ _ => DL.not8) (fun _ _ _ => DL.notI)
          have hnd := (HBS.out d hmem).n
          have hbd := HBL.out d hmem
          have htk : (ds.take (k + 1)).flatMap PgD.bytes = (ds.take k).flatMap PgD.bytes ++ d.bytes := by
            rw [List.take_add_one, hd]
            simp
          have HTK := Lib.hid htk
          have HD := Lib.hid hd
          clear hcell hd htk HN0
          go_wp2_with fail
          refine (lists_any (d := d) hokW hnd).mono ?_
          rintro e W2 ⟨A2, c2, rfl, hl2, hE2⟩
          have hA2 := hA.ext hE2
          have hsep : ∀ q, (Value.slice A n c).ownBlock = some q → (Value.slice A2 d.bytes.length c2).ownBlock ≠ some q := fun q h1 h2 => by
            have e1 := (World.ownsRow.lt hA.own q h1).2
            have e2 := (World.ownsRow.lt hl2 q h2).1
            omega
          have hus : ∀ u ∈ d.bytes, ∃ A m c, u = .slice A m c := fun u hu => by
            rcases List.mem_cons.1 hu with rfl | hu
            · exact ⟨_, _, _, rfl⟩
            · obtain ⟨bs, A, c, rfl, _⟩ := hokW.its.each.mem u hu
              exact ⟨_, _, _, rfl⟩
          obtain ⟨M, hM⟩ : ∃ M, d.bytes.length = M := ⟨_, rfl⟩
          obtain ⟨xs, hxs⟩ : ∃ xs, (Y.map (·.1) ++ (ds.take k).flatMap PgD.bytes) = xs := ⟨_, rfl⟩
          obtain ⟨zs, hzs⟩ : ∃ zs, d.bytes = zs := ⟨_, rfl⟩
          rw [hzs] at hl2 hM hus hsep hbd ⊢
          rw [hM] at hl2 hsep hbd ⊢
          rw [hxs] at hA2
          have HM := Lib.hid hM
          have HXS := Lib.hid hxs
          have HZS := Lib.hid hzs
          have HUS := Lib.hid hus
          clear hM hxs hzs hA z0 z1 z2 z3 z4 hokW hus hnd
          go_wp2
          go_loopw [11, 32] (fun l ii W3 => ∃ (m n1 : Nat) (A1 : Option Addr) (c1 : Nat), m ≤ M ∧ ii = .int .i64 m ∧ l = .slice A1 n1 c1 ∧ Hid (n1 = n + m) ∧ LsA w6 wr W3 A1 n1 c1 (xs ++ zs.take m) (some ⟨gp, 0, none⟩) 16 cp (ds.flatMap c5) ∧ W3.ownsRow W.heap.size 24 1 (.slice A2 M c2) M zs ∧ (∀ q, (Value.slice A1 n1 c1).ownBlock = some q → (Value.slice A2 M c2).ownBlock ≠ some q)) (fun _ ii _ => M - (intOf ii).toNat)
          case atStart => exact ⟨0, n, A, c, Nat.zero_le _, rfl, rfl, Lib.hid rfl, by simpa using hA2, hl2, hsep⟩
          case round =>
            clear hA2 hl2 hsep
            rename World => W3
            obtain ⟨m, n1, A1, c1, hm, rfl, rfl, HN1, hA3, hl3, hs3⟩ := hrel
            have hn1 := HN1.out
            have hn1b : n1 ≤ 71303189 := by omega
            clear hn1
            by_cases hltm : m < M
            · obtain ⟨u, hu⟩ : ∃ u, zs[m]? = some u := ⟨_, List.getElem?_eq_getElem (by rw [HM.out]; exact hltm)⟩
              obtain ⟨Au, ku, cu, rfl⟩ := HUS.out u (List.mem_of_getElem? hu)
              obtain ⟨g2, cpp2, hgA2, _, _⟩ := World.ownsRow.form hl3 (by omega)
              have hmc : m < c2 := by
                rcases hl3.2 with ⟨h0, _⟩ | ⟨g', cap, cur, hv, _, _, hle, _⟩
                · injection h0 with _ h0; omega
                · injection hv with _ _ hc; omega
              injection hgA2 with hgA2 _ hcc2
              subst hgA2 hcc2
              have y0 : W3.cell? ⟨g2, m, none⟩ = some (.slice Au ku cu) := by rw [World.ownsRow.cellAt hl3 m (by omega), hu]
              have hzt : zs.take (m + 1) = zs.take m ++ [.slice Au ku cu] := by rw [List.take_add_one, hu]; rfl
              have HZT := Lib.hid hzt
              have hW3 := hA3.x.size
              have hw6 := hE.size
              clear hu hzt
              go_wp2_with (at_builtin; refine wpList_append_apart rfl _ _ 27 rfl w6.heap.size 24 i1 _ 1 24 Try.underlying27 hi1 hy0 hy1 hy2 rfl (by decide) _ n1 _ rfl (hA3.own.alloc _) ⟨W3.heap.size, 0, none⟩ 1 1 [.slice Au ku cu] rfl rfl (cell_one_new _ _ _) (by simp [Value.oneCell']) (by decide) (by simp [maxLen]; omega) (by omega) (by simp; omega) ?_; intro v' w3 ho3 hc3)
              obtain ⟨row, hg3, hr3⟩ := grown_row (hA3.own.alloc _) hc3
              obtain ⟨hl5, hs5⟩ := sep_push (hA3.own.alloc _) (hl3.alloc _) hs3 hc3
              obtain ⟨A5, c5_, rfl⟩ := slice_of_own ho3
              have hA5 := (hA3.ext (ext_alloc W3 _)).push ho3 hg3 hr3
              clear hA3 hl3 hs3 hg3 hr3 ho3 hc3 y0
              go_wp2
              go_roundw
              case rel => exact ⟨m + 1, n1 + 1, A5, c5_, by omega, by go_num, rfl, Lib.hid (by have := HN1.out; omega), by rw [HZT.out, ← List.append_assoc]; exact hA5, hl5, hs5⟩
              case measure => simp [intOf]; omega
            · obtain rfl : m = M := by omega
              have hA4 : LsA w6 wr W3 A1 n1 c1 (Y.map (·.1) ++ (ds.take (k + 1)).flatMap PgD.bytes) (some ⟨gp, 0, none⟩) 16 cp (ds.flatMap c5) := by
                rw [HTK.out, ← List.append_assoc, HXS.out, HZS.out]
                have h9 := hA3
                rw [List.take_of_length_le (by rw [HM.out]; exact Nat.le_refl _)] at h9
                exact h9
              have HN5 : Hid (n1 = 4 + ((ds.take (k + 1)).flatMap PgD.bytes).length) := Lib.hid (by
                rw [HTK.out, List.length_append, HZS.out, HM.out]
                have := HN.out
                have := HN1.out
                omega)
              clear hA3 hl3 hs3
              go_wp2
              go_roundw
              case rel => exact ⟨k + 1, n1, A1, c1, by omega, by go_num, rfl, HN5, hA4⟩
              case measure => simp [intOf]; omega
        · obtain rfl : k = 16 := by omega
          have htk : ds.take 16 = ds := List.take_of_length_le (by rw [HDL.out]; exact Nat.le_refl _)
          rw [htk] at hA HN0
          obtain ⟨L, hL⟩ : ∃ L, Y.map (·.1) ++ ds.flatMap PgD.bytes = L := ⟨_, rfl⟩
          have hLn : L.length = n := by rw [← hL, List.length_append, List.length_map, HYL.out, HN0]
          have hpL : L.Pairwise NoShare := by rw [← hL]; exact (List.Perm.pairwise_iff (fun h => h.symm) List.perm_append_comm).1 HPW.out
          have hall : ∀ u ∈ L, ∃ bs, SOwn 5 w6.heap.size bs u W ∧ bs.length ≤ 1048576 := fun u hu => by
            rw [← hL] at hu
            rcases List.mem_append.1 hu with hu | hu
            · obtain ⟨y, hy, rfl⟩ := List.mem_map.1 hu
              exact ⟨_, (HSY.out y hy).exc hA.x (fun _ _ _ => DL.not8), HL.out.bdy y hy⟩
            · obtain ⟨d, hd, hu⟩ := List.mem_flatMap.1 hu
              exact bytes_mem ((HOK.out d hd).exc hA.x (fun _ _ _ => DL.not8) (fun _ _ _ => DL.notI)) (HBS.out d hd) u hu
          rw [hL] at hA
          have hhd := hds_of hall
          have hAp := apart_map hpL (fun j h hj => (hhd j h hj).1)
          obtain ⟨gl, cur, rfl, hgl, hnc, hcur⟩ := row_fit hA.own (by omega)
          have hhl : (L.map toHd).length = n := by rw [List.length_map, hLn]
          have hWs := hE.size
          have q1 := rapartq_any (hs := L.map toHd) (cl := c) hgl (fun j h hj => hcur j _ (hhd j h hj).1) (by rw [hhl]; omega) (by rw [hhl]; exact hnc) (fun h hm => by
            obtain ⟨j, hj⟩ := List.mem_iff_getElem?.1 hm
            have := (hhd j h hj).2.1; omega) (show w6.heap.size ≤ W.heap.size by omega) hAp (fun j h hj => (hhd j h hj).2.2)
          rw [hhl] at q1
          obtain ⟨gp', curp, hgp', hgpc, hcpp, hcurp⟩ := row_fit hA.pg (by decide)
          injection hgp' with hgp'
          injection hgp' with hgp'
          subst hgp'
          obtain ⟨hs2, hhs2⟩ : ∃ hs : List Hd, ds.map (fun d => (⟨d.iA, d.p.items.length, d.ic⟩ : Hd)) = hs := ⟨_, rfl⟩
          have hs2l : hs2.length = 16 := by rw [← hhs2, List.length_map, HDL.out]
          have hat2 : ∀ (j : Nat) (h : Hd), hs2[j]? = some h → ∃ d, ds[j]? = some d ∧ h.v = d.row ∧ h.k = d.p.items.length := fun j h hj => by
            rw [← hhs2, List.getElem?_map] at hj
            obtain ⟨d, hd, rfl⟩ := Option.map_eq_some_iff.1 hj
            exact ⟨d, hd, rfl, rfl⟩
          have hAp2 : ApartH hs2 := apart_map HRW.out (fun j h hj => by
            obtain ⟨d, hd, e1, _⟩ := hat2 j h hj
            rw [List.getElem?_map, hd, e1]; rfl)
          have HA := Lib.hid hA
          have HAP2 := Lib.hid hAp2
          have HAT2 := Lib.hid hat2
          have HS2L := Lib.hid hs2l
          have HGP := Lib.hid hgpc
          have HCP := Lib.hid hcurp
          have HII := Lib.hid FR.out.bi
          clear hA hpL hall hhd hAp hgl hcur hhl hLn hL htk hAp2 hat2 hs2l hgpc hcurp hhs2 HN0 hlt
          go_wp2_with fail
          refine q1.mono ?_
          rintro e W4 ⟨rfl, hE4⟩
          have h4s := hE4.size
          have q2 := lapart_any (hs := hs2) (gl := gp) (cl := cp) (B := w6.heap.size) (cur := curp) (fr := (0, 0)) (w := W4) (hE4.blk HGP.out (DA.page (Array.getElem?_eq_some_iff.1 HGP.out).1)) (fun j h hj => by
            obtain ⟨d, hd, e1, _⟩ := HAT2.out j h hj
            refine HCP.out (j * 5 + 2) _ ?_
            rw [flat5 (fun _ => rfl) ds j 2 d hd (by decide), e1]; rfl) (by rw [HS2L.out]; decide) (by rw [HS2L.out]; exact hcpp) (fun h hm => by
            obtain ⟨j, hj⟩ := List.mem_iff_getElem?.1 hm
            obtain ⟨d, hd, _, e2⟩ := HAT2.out j h hj
            have := (HBS.out d (List.mem_of_getElem? hd)).n
            omega) (by omega) HAP2.out (fun j h hj => by
            obtain ⟨d, hd, e1, e2⟩ := HAT2.out j h hj
            have h1 := ((HOK.out d (List.mem_of_getElem? hd)).exc HA.out.x (fun _ _ _ => DL.not8) (fun _ _ _ => DL.notI)).its.row
            rw [e1, e2]
            exact ⟨_, own_exc2 h1 hE4 (fun k cs hk => DA.item hk)⟩)
          rw [HS2L.out] at q2
          clear q1
          go_wp2_with fail
          refine q2.mono ?_
          rintro e W5 ⟨rfl, hE5⟩
          have hX1 : Ext w6 W := HA.out.x.to_ext hE (fun k _ hk => hk.1)
          have hX2 : Ext w6 W4 := hE4.to_ext hX1 (fun k _ hk => hk.elim (fun h => h.1) (fun h => by omega))
          have hX5 : Ext w6 W5 := hE5.to_ext hX2 (fun k _ hk => hk)
          clear q2 hE4 hE5 hX1 hX2
          have cx0 := cell_of_row W5 gx 0 _ _ _ (hX5.blk HX.out)
          have cx1 := cell_of_row W5 gx 1 _ _ _ (hX5.blk HX.out)
          have cx2 := cell_of_row W5 gx 2 _ _ _ (hX5.blk HX.out)
          have cx3 := cell_of_row W5 gx 3 _ _ _ (hX5.blk HX.out)
          have cx4 := cell_of_row W5 gx 4 _ _ _ (hX5.blk HX.out)
          simp only [List.getElem?_toArray, List.getElem?_cons_zero, List.getElem?_cons_succ] at cx0 cx1 cx2 cx3 cx4
          have ct0 := cell_of_row W5 w.heap.size 0 _ _ _ (hX5.blk HTT.out)
          have ct1 := cell_of_row W5 w.heap.size 1 _ _ _ (hX5.blk HTT.out)
          have ct2 := cell_of_row W5 w.heap.size 2 _ _ _ (hX5.blk HTT.out)
          have ct3 := cell_of_row W5 w.heap.size 3 _ _ _ (hX5.blk HTT.out)
          have ct4 := cell_of_row W5 w.heap.size 4 _ _ _ (hX5.blk HTT.out)
          simp only [List.getElem?_toArray, List.getElem?_cons_zero, List.getElem?_cons_succ] at ct0 ct1 ct2 ct3 ct4
          have q := eqPage_any (HPX.out.ext hX5) (hv1.ext (FR.out.e.trans hX5))
          rw [show eqPg p p = true by simp [eqPg]] at q
          go_wp2_with fail
          refine q.mono ?_
          rintro e W6 ⟨rfl, hE6⟩
          have hX6 := hX5.trans hE6
          clear q cx0 cx1 cx2 cx3 cx4 ct0 ct1 ct2 ct3 ct4 hE6
          have cy0 := cell_of_row W6 gy 0 _ _ _ (hX6.blk HY.out)
          have cy1 := cell_of_row W6 gy 1 _ _ _ (hX6.blk HY.out)
          have cy2 := cell_of_row W6 gy 2 _ _ _ (hX6.blk HY.out)
          have cy3 := cell_of_row W6 gy 3 _ _ _ (hX6.blk HY.out)
          have cy4 := cell_of_row W6 gy 4 _ _ _ (hX6.blk HY.out)
          simp only [List.getElem?_toArray, List.getElem?_cons_zero, List.getElem?_cons_succ] at cy0 cy1 cy2 cy3 cy4
          have cu0 := cell_of_row W6 w.heap.size 5 _ _ _ (hX6.blk HTT.out)
          have cu1 := cell_of_row W6 w.heap.size 6 _ _ _ (hX6.blk HTT.out)
          have cu2 := cell_of_row W6 w.heap.size 7 _ _ _ (hX6.blk HTT.out)
          have cu3 := cell_of_row W6 w.heap.size 8 _ _ _ (hX6.blk HTT.out)
          have cu4 := cell_of_row W6 w.heap.size 9 _ _ _ (hX6.blk HTT.out)
          simp only [List.getElem?_toArray, List.getElem?_cons_zero, List.getElem?_cons_succ] at cu0 cu1 cu2 cu3 cu4
          have qq := eqPage_any (HPY.out.ext hX6) (hv2.ext (FR.out.e.trans hX6))
          rw [show eqPg q q = true by simp [eqPg]] at qq
          go_wp2_with fail
          refine qq.mono ?_
          rintro e W7 ⟨rfl, hE7⟩
          have hX7 := hX6.trans hE7
          clear qq cy0 cy1 cy2 cy3 cy4 cu0 cu1 cu2 cu3 cu4 hE7
          have cs10 := cell_of_row W7 w.heap.size 10 _ _ _ (hX7.blk HTT.out)
          simp only [List.getElem?_toArray, List.getElem?_cons_zero, List.getElem?_cons_succ] at cs10
          have qq := eqBytes_any (HPS.out.ext hX7) (hs.ext (FR.out.e.trans hX7))
          rw [show eqB sep sep = true by simp [eqB]] at qq
          go_wp2_with fail
          refine qq.mono ?_
          rintro e W8 ⟨rfl, hE8⟩
          have hX8 := hX7.trans hE8
          clear qq cs10 hE8
          have cz0 := cell_of_row W8 gz 0 _ _ _ (hX8.blk HZ.out)
          have cz1 := cell_of_row W8 gz 1 _ _ _ (hX8.blk HZ.out)
          have cz2 := cell_of_row W8 gz 2 _ _ _ (hX8.blk HZ.out)
          have cz3 := cell_of_row W8 gz 3 _ _ _ (hX8.blk HZ.out)
          simp only [List.getElem?_toArray, List.getElem?_cons_zero, List.getElem?_cons_succ] at cz0 cz1 cz2 cz3
          have ci0 := cell_of_row W8 (w.heap.size + 1) 0 _ _ _ (hX8.blk HII.out)
          have ci1 := cell_of_row W8 (w.heap.size + 1) 1 _ _ _ (hX8.blk HII.out)
          have ci2 := cell_of_row W8 (w.heap.size + 1) 2 _ _ _ (hX8.blk HII.out)
          have ci3 := cell_of_row W8 (w.heap.size + 1) 3 _ _ _ (hX8.blk HII.out)
          simp only [List.getElem?_toArray, List.getElem?_cons_zero, List.getElem?_cons_succ] at ci0 ci1 ci2 ci3
          have hpz : Sl w6 zA zc x.key ∧ Sl w6 yA yc x.val := by
            obtain ⟨A1, c1, A2, c2, e, o1, o2⟩ := HPZ.out.ex
            simp only [Value.agg.injEq, Array.mk.injEq, List.cons.injEq, Value.slice.injEq, true_and] at e
            obtain ⟨⟨rfl, rfl⟩, ⟨rfl, rfl⟩, _⟩ := e
            exact ⟨o1, o2⟩
          have qq := eqItem_any (x := x) (y := x) (hpz.1.ext hX8) (hpz.2.ext hX8) (hk_.ext (FR.out.e.trans hX8)) (hvv.ext (FR.out.e.trans hX8)) rfl rfl rfl rfl rfl rfl rfl rfl
          rw [show eqIt x x = true by simp [eqIt]] at qq
          go_wp2_with fail
          refine qq.mono ?_
          rintro e W9 ⟨rfl, hE9⟩
          have hX9 := hX8.trans hE9
          clear qq cz0 cz1 cz2 cz3 ci0 ci1 ci2 ci3 hE9 hpz
          go_wp2_with fail
          refine (works_any (w := W9)).mono ?_
          rintro e W10 ⟨rfl, hE10⟩
          have hX10 := FR.out.e.trans (hX9.trans hE10)
          clear hE10
          go_wp2
          go_ret
          exact ⟨rfl, hX10⟩
end Go.Proofs.Ytjjbckdiojleeaa.Q
