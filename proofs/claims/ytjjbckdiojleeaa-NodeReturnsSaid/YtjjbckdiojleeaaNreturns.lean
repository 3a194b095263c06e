/- The walk of NodeReturns. No condition but that what comes in lies in memory. -/
import Derived.Test.YtjjbckdiojleeaaFits
import Derived.Test.YtjjbckdiojleeaaNlawb
import Derived.Test.YtjjbckdiojleeaaSame
namespace Go.Proofs.Ytjjbckdiojleeaa
set_option linter.unusedVariables false
open Go.RowKit Go.Proofs
structure SmallL (a b : Pg) (s : List UInt8) : Prop where
  a : PSmall a
  b : PSmall b
  c : s.length ≤ 140737488355328
set_option maxRecDepth 100000 in
set_option maxHeartbeats 8000000 in
theorem returns_true {v : Value} {p q : Pg} {sep : List UInt8} {w : World} (hv : TwoV w v p q sep true) :
    Calls Try.prog 9 #[v] w fun e w' => e = .returned (.bool true) ∧ Ext w w' := by
  obtain ⟨iA, ic, dA, dc, jA, jc, eA, ec, sA, sc, rfl, hi, hd, hj, hc, hs, hpl, hql⟩ := hv.ex
  have hv1 : PgV w (.agg #[.int .i64 p.kind, .int .i64 p.level, .slice iA p.items.length ic, .slice dA p.data.length dc, .int .i64 p.next]) p := ⟨iA, ic, dA, dc, rfl, hi, hd⟩
  have hv2 : PgV w (.agg #[.int .i64 q.kind, .int .i64 q.level, .slice jA q.items.length jc, .slice eA q.data.length ec, .int .i64 q.next]) q := ⟨jA, jc, eA, ec, rfl, hj, hc⟩
  have hsm1 := hv1.small
  have hsm2 := hv2.small
  have hsl := hs.len
  clear hv hi hd hj hc
  have HT := Lib.hid (heap_alloc_new w (.cells #[.int .i64 p.kind, .int .i64 p.level, .slice iA p.items.length ic, .slice dA p.data.length dc, .int .i64 p.next, .int .i64 q.kind, .int .i64 q.level, .slice jA q.items.length jc, .slice eA q.data.length ec, .int .i64 q.next, .slice sA sep.length sc, .bool true] 40))
  have hE := ext_alloc w (.cells #[.int .i64 p.kind, .int .i64 p.level, .slice iA p.items.length ic, .slice dA p.data.length dc, .int .i64 p.next, .int .i64 q.kind, .int .i64 q.level, .slice jA q.items.length jc, .slice eA q.data.length ec, .int .i64 q.next, .slice sA sep.length sc, .bool true] 40)
  have hlm0 : lendOk p q true = true → p.items.length + q.items.length ≤ 2199023255552 := lend_bound hpl hql
  have hlm : Small3 (lendB p q sep true) := by
    by_cases h : lendOk p q true = true
    · exact lend_small hsm1 hsm2 hsl (hlm0 h)
    · rw [show lendB p q sep true = none by unfold lendB; rw [if_neg h]]
      exact Small3.none_
  obtain ⟨lo, hlo⟩ : ∃ o, lendB p q sep true = o := ⟨_, rfl⟩
  rw [hlo] at hlm
  have HLO := Lib.hid hlo
  obtain ⟨la, hla⟩ : ∃ x, part1 lo = x := ⟨_, rfl⟩
  obtain ⟨lb, hlb⟩ : ∃ x, part2 lo = x := ⟨_, rfl⟩
  obtain ⟨ls, hls⟩ : ∃ x, part3 lo = x := ⟨_, rfl⟩
  obtain ⟨lz, hlz⟩ : ∃ x, lo.isSome = x := ⟨_, rfl⟩
  have HLA := Lib.hid (show part1 (lendB p q sep true) = la by rw [hlo]; exact hla)
  have HLB := Lib.hid (show part2 (lendB p q sep true) = lb by rw [hlo]; exact hlb)
  have HLS := Lib.hid (show part3 (lendB p q sep true) = ls by rw [hlo]; exact hls)
  have HLZ := Lib.hid (show (lendB p q sep true).isSome = lz by rw [hlo]; exact hlz)
  have HLS3 := Lib.hid hlm
  have hlm : SmallL la lb ls := ⟨hla ▸ hlm.a, hlb ▸ hlm.b, hls ▸ hlm.c⟩
  clear hlo hla hlb hls hlz hlm0 HLS3
  go_enter Try.func9, Try.ntmps9
  go_wp2_with fail
  refine works_any.mono ?_
  rintro e w1 ⟨rfl, hE1⟩
  replace HT := Lib.hid (hE1.blk HT.out)
  replace hE := hE.trans hE1
  clear hE1
  have ct0 := cell_of_row w1 w.heap.size 0 _ _ _ HT.out
  have ct1 := cell_of_row w1 w.heap.size 1 _ _ _ HT.out
  have ct2 := cell_of_row w1 w.heap.size 2 _ _ _ HT.out
  have ct3 := cell_of_row w1 w.heap.size 3 _ _ _ HT.out
  have ct4 := cell_of_row w1 w.heap.size 4 _ _ _ HT.out
  have ct5 := cell_of_row w1 w.heap.size 5 _ _ _ HT.out
  have ct6 := cell_of_row w1 w.heap.size 6 _ _ _ HT.out
  have ct7 := cell_of_row w1 w.heap.size 7 _ _ _ HT.out
  have ct8 := cell_of_row w1 w.heap.size 8 _ _ _ HT.out
  have ct9 := cell_of_row w1 w.heap.size 9 _ _ _ HT.out
  have ct10 := cell_of_row w1 w.heap.size 10 _ _ _ HT.out
  have ct11 := cell_of_row w1 w.heap.size 11 _ _ _ HT.out
  simp only [List.getElem?_toArray, List.getElem?_cons_zero, List.getElem?_cons_succ] at ct0 ct1 ct2 ct3 ct4 ct5 ct6 ct7 ct8 ct9 ct10 ct11
  go_wp2_with fail
  clear ct0 ct1 ct2 ct3 ct4 ct5 ct6 ct7 ct8 ct9 ct10 ct11
  refine (fits_any (hv1.ext hE) (hv2.ext hE) (hs.ext hE) rfl).mono ?_
  rintro e w2 ⟨fz, rfl, hfz, hE2⟩
  have HFZ := Lib.hid hfz
  replace HT := Lib.hid (hE2.blk HT.out)
  replace hE := hE.trans hE2
  clear hE2 hfz
  cases fz
  · go_wp2
    go_ret
    exact ⟨rfl, hE⟩
  have HF := Lib.hid (HFZ.out.1 rfl)
  clear HFZ
  go_wp2_with fail
  have hw0 : w.heap.size < w2.heap.size := (Array.getElem?_eq_some_iff.1 HT.out).1
  refine wp_region_rg (Exk (PgBlk w2.heap.size)) (rel_exk _) (fun _ => True) [0, 1, 2, 3, 4, 5, 6, 7, 8, 9, 10, 11, 12, 13, 14, 15, 16, 17, 18, 19, 20, 21, 22] (fun i => match i with
    | 2 => some fun V v w' => PgO w2.heap.size w' v p
    | 5 => some fun V v w' => PgO w2.heap.size w' v q
    | 8 => some fun V v w' => SOwn 5 w2.heap.size sep v w'
    | 11 => some fun V => LendIn w2.heap.size la lb ls lz
    | 17 => some fun V => PgCell w2.heap.size
    | 18 => some fun V => PgCell w2.heap.size
    | _ => none) (fun i => match i with
    | 19 => some fun V _ => StoredAt w2.heap.size (comp (V 11) 0) (V 17)
    | 20 => some fun V _ => Stored2 w2.heap.size (comp (V 11) 0) (V 17) (comp (V 11) 1) (V 18)
    | _ => none) (fun _ => false) (by kernel_rfl) (by kernel_rfl) (fun _ _ h he => trivial) trivial (fun W N hW hF0 hN => ?_)
  have hEW : Exk (PgBlk w2.heap.size) w2 W := Exk.of_ext hW
  have hXb : ∀ w', Exk (PgBlk w2.heap.size) W w' → Ext w2 w' := fun w' h => (Exk.trans hEW h).x.to_ext (Below.refl _ _) (fun k _ hk => hk.1)
  have hX : ∀ w', Exk (PgBlk w2.heap.size) W w' → Ext w w' := fun w' h => hE.trans (hXb w' h)
  have t0 : ∀ w', Exk (PgBlk w2.heap.size) w2 w' → w'.cell? ⟨w.heap.size, 0, none⟩ = some (.int .i64 p.kind) := fun w' h => cell_of_row _ _ _ _ _ _ (h.x.blk HT.out (PgBlk.notLt (by omega)))
  have t1 : ∀ w', Exk (PgBlk w2.heap.size) w2 w' → w'.cell? ⟨w.heap.size, 1, none⟩ = some (.int .i64 p.level) := fun w' h => cell_of_row _ _ _ _ _ _ (h.x.blk HT.out (PgBlk.notLt (by omega)))
  have t2 : ∀ w', Exk (PgBlk w2.heap.size) w2 w' → w'.cell? ⟨w.heap.size, 2, none⟩ = some (.slice iA p.items.length ic) := fun w' h => cell_of_row _ _ _ _ _ _ (h.x.blk HT.out (PgBlk.notLt (by omega)))
  have t3 : ∀ w', Exk (PgBlk w2.heap.size) w2 w' → w'.cell? ⟨w.heap.size, 3, none⟩ = some (.slice dA p.data.length dc) := fun w' h => cell_of_row _ _ _ _ _ _ (h.x.blk HT.out (PgBlk.notLt (by omega)))
  have t4 : ∀ w', Exk (PgBlk w2.heap.size) w2 w' → w'.cell? ⟨w.heap.size, 4, none⟩ = some (.int .i64 p.next) := fun w' h => cell_of_row _ _ _ _ _ _ (h.x.blk HT.out (PgBlk.notLt (by omega)))
  have t5 : ∀ w', Exk (PgBlk w2.heap.size) w2 w' → w'.cell? ⟨w.heap.size, 5, none⟩ = some (.int .i64 q.kind) := fun w' h => cell_of_row _ _ _ _ _ _ (h.x.blk HT.out (PgBlk.notLt (by omega)))
  have t6 : ∀ w', Exk (PgBlk w2.heap.size) w2 w' → w'.cell? ⟨w.heap.size, 6, none⟩ = some (.int .i64 q.level) := fun w' h => cell_of_row _ _ _ _ _ _ (h.x.blk HT.out (PgBlk.notLt (by omega)))
  have t7 : ∀ w', Exk (PgBlk w2.heap.size) w2 w' → w'.cell? ⟨w.heap.size, 7, none⟩ = some (.slice jA q.items.length jc) := fun w' h => cell_of_row _ _ _ _ _ _ (h.x.blk HT.out (PgBlk.notLt (by omega)))
  have t8 : ∀ w', Exk (PgBlk w2.heap.size) w2 w' → w'.cell? ⟨w.heap.size, 8, none⟩ = some (.slice eA q.data.length ec) := fun w' h => cell_of_row _ _ _ _ _ _ (h.x.blk HT.out (PgBlk.notLt (by omega)))
  have t9 : ∀ w', Exk (PgBlk w2.heap.size) w2 w' → w'.cell? ⟨w.heap.size, 9, none⟩ = some (.int .i64 q.next) := fun w' h => cell_of_row _ _ _ _ _ _ (h.x.blk HT.out (PgBlk.notLt (by omega)))
  have t10 : ∀ w', Exk (PgBlk w2.heap.size) w2 w' → w'.cell? ⟨w.heap.size, 10, none⟩ = some (.slice sA sep.length sc) := fun w' h => cell_of_row _ _ _ _ _ _ (h.x.blk HT.out (PgBlk.notLt (by omega)))
  have t11 : ∀ w', Exk (PgBlk w2.heap.size) w2 w' → w'.cell? ⟨w.heap.size, 11, none⟩ = some (.bool true) := fun w' h => cell_of_row _ _ _ _ _ _ (h.x.blk HT.out (PgBlk.notLt (by omega)))
  repeat (first | (apply wpR_one; (case ho => (simp only [List.getElem?_toArray, List.getElem?_cons_succ, List.getElem?_cons_zero]; try exact rfl)); (case hw => rfl); (case hl => rfl); (case hsp => rfl); (case he => rfl); (case hv => (intro w' hw'; (try (have hw2 := Ext.trans hEW hw')); (try (have hw3 := Exc.trans hEW hw')); (try (have hw4 := Exk.trans hEW hw')); (try (have hw5 := Mrk.trans hEW hw')); go_simp; exact rfl)); (case hw0 => (first | exact Below.refl _ _ | exact Exc.of_ext (Below.refl _ _) | exact Exk.of_ext (Below.refl _ _) | exact Mrk.of_ext (Below.refl _ _))); simp only [Act.put, List.setIfInBounds_toArray, List.set_cons_succ, List.set_cons_zero]) | (apply wpR_early; (case ho => (simp only [List.getElem?_toArray, List.getElem?_cons_succ, List.getElem?_cons_zero]; try exact rfl)); (case hw => rfl); (case hl => rfl); (case hsp => rfl); (case he => rfl); (case hv => (intro w' hw'; (try have hw2 := Ext.trans hEW hw'); go_simp; exact rfl)); simp only [Act.put, List.setIfInBounds_toArray, List.set_cons_succ, List.set_cons_zero]) | (apply wpR_pass; (case ho => (simp only [List.getElem?_toArray, List.getElem?_cons_succ, List.getElem?_cons_zero]; try exact rfl)); (case hw => rfl); (case hl => rfl); simp only [Act.put, List.setIfInBounds_toArray, List.set_cons_succ, List.set_cons_zero]))
  refine wpR_new (by ((simp only [List.getElem?_toArray, List.getElem?_cons_succ, List.getElem?_cons_zero]; try exact rfl))) _ rfl rfl rfl (fun V v => PgO.lastsK _ _) (fun V V' h => rfl) (fun w' hw' hK => ?_) (fun v hv => ?_)
  · have HX := Lib.hid (hX w' hw')
    clear hK
    unfold opAt; go_simp; refine upAt_enter ?_
    refine (copyPage_any (hv1.ext HX.out)).mono ?_
    rintro e w2 ⟨v', rfl, hO, hE2⟩
    exact ⟨_, rfl, hE2, hO.mono (hEW.trans hw').x.size⟩
  obtain ⟨xA0, xc0, xD0, xd0, rfl⟩ : ∃ a b c d, v = .agg #[.int .i64 p.kind, .int .i64 p.level, .slice a p.items.length b, .slice c p.data.length d, .int .i64 p.next] := by
    obtain ⟨_, _, _, hO⟩ := hv
    obtain ⟨a, b, c, d, ps, e, _⟩ := hO.ex
    exact ⟨a, b, c, d, e⟩
  clear hv
  simp only [Act.put, List.setIfInBounds_toArray, List.set_cons_succ, List.set_cons_zero]
  repeat (first | (apply wpR_one; (case ho => (simp only [List.getElem?_toArray, List.getElem?_cons_succ, List.getElem?_cons_zero]; try exact rfl)); (case hw => rfl); (case hl => rfl); (case hsp => rfl); (case he => rfl); (case hv => (intro w' hw'; (try (have hw2 := Ext.trans hEW hw')); (try (have hw3 := Exc.trans hEW hw')); (try (have hw4 := Exk.trans hEW hw')); (try (have hw5 := Mrk.trans hEW hw')); go_simp; exact rfl)); (case hw0 => (first | exact Below.refl _ _ | exact Exc.of_ext (Below.refl _ _) | exact Exk.of_ext (Below.refl _ _) | exact Mrk.of_ext (Below.refl _ _))); simp only [Act.put, List.setIfInBounds_toArray, List.set_cons_succ, List.set_cons_zero]) | (apply wpR_early; (case ho => (simp only [List.getElem?_toArray, List.getElem?_cons_succ, List.getElem?_cons_zero]; try exact rfl)); (case hw => rfl); (case hl => rfl); (case hsp => rfl); (case he => rfl); (case hv => (intro w' hw'; (try have hw2 := Ext.trans hEW hw'); go_simp; exact rfl)); simp only [Act.put, List.setIfInBounds_toArray, List.set_cons_succ, List.set_cons_zero]) | (apply wpR_pass; (case ho => (simp only [List.getElem?_toArray, List.getElem?_cons_succ, List.getElem?_cons_zero]; try exact rfl)); (case hw => rfl); (case hl => rfl); simp only [Act.put, List.setIfInBounds_toArray, List.set_cons_succ, List.set_cons_zero]))
  refine wpR_new (by ((simp only [List.getElem?_toArray, List.getElem?_cons_succ, List.getElem?_cons_zero]; try exact rfl))) _ rfl rfl rfl (fun V v => PgO.lastsK _ _) (fun V V' h => rfl) (fun w' hw' hK => ?_) (fun v hv => ?_)
  · have HX := Lib.hid (hX w' hw')
    clear hK
    unfold opAt; go_simp; refine upAt_enter ?_
    refine (copyPage_any (hv2.ext HX.out)).mono ?_
    rintro e w2 ⟨v', rfl, hO, hE2⟩
    exact ⟨_, rfl, hE2, hO.mono (hEW.trans hw').x.size⟩
  obtain ⟨xA1, xc1, xD1, xd1, rfl⟩ : ∃ a b c d, v = .agg #[.int .i64 q.kind, .int .i64 q.level, .slice a q.items.length b, .slice c q.data.length d, .int .i64 q.next] := by
    obtain ⟨_, _, _, hO⟩ := hv
    obtain ⟨a, b, c, d, ps, e, _⟩ := hO.ex
    exact ⟨a, b, c, d, e⟩
  clear hv
  simp only [Act.put, List.setIfInBounds_toArray, List.set_cons_succ, List.set_cons_zero]
  repeat (first | (apply wpR_one; (case ho => (simp only [List.getElem?_toArray, List.getElem?_cons_succ, List.getElem?_cons_zero]; try exact rfl)); (case hw => rfl); (case hl => rfl); (case hsp => rfl); (case he => rfl); (case hv => (intro w' hw'; (try (have hw2 := Ext.trans hEW hw')); (try (have hw3 := Exc.trans hEW hw')); (try (have hw4 := Exk.trans hEW hw')); (try (have hw5 := Mrk.trans hEW hw')); go_simp; exact rfl)); (case hw0 => (first | exact Below.refl _ _ | exact Exc.of_ext (Below.refl _ _) | exact Exk.of_ext (Below.refl _ _) | exact Mrk.of_ext (Below.refl _ _))); simp only [Act.put, List.setIfInBounds_toArray, List.set_cons_succ, List.set_cons_zero]) | (apply wpR_early; (case ho => (simp only [List.getElem?_toArray, List.getElem?_cons_succ, List.getElem?_cons_zero]; try exact rfl)); (case hw => rfl); (case hl => rfl); (case hsp => rfl); (case he => rfl); (case hv => (intro w' hw'; (try have hw2 := Ext.trans hEW hw'); go_simp; exact rfl)); simp only [Act.put, List.setIfInBounds_toArray, List.set_cons_succ, List.set_cons_zero]) | (apply wpR_pass; (case ho => (simp only [List.getElem?_toArray, List.getElem?_cons_succ, List.getElem?_cons_zero]; try exact rfl)); (case hw => rfl); (case hl => rfl); simp only [Act.put, List.setIfInBounds_toArray, List.set_cons_succ, List.set_cons_zero]))
  refine wpR_new (by ((simp only [List.getElem?_toArray, List.getElem?_cons_succ, List.getElem?_cons_zero]; try exact rfl))) _ rfl rfl rfl (fun V v => SOwn.lastsK _ _) (fun V V' h => rfl) (fun w' hw' hK => ?_) (fun v hv => ?_)
  · have HX := Lib.hid (hX w' hw')
    clear hK
    unfold opAt; go_simp; refine upAt_enter ?_
    refine (copyBytes_any (hs.ext HX.out)).mono ?_
    rintro e w2 ⟨A9, c9, rfl, hO, hE2⟩
    exact ⟨_, rfl, hE2, A9, c9, rfl, hO.mono (hEW.trans hw').x.size⟩
  obtain ⟨xA2, xc2, rfl⟩ : ∃ A c, v = .slice A sep.length c := by
    obtain ⟨_, _, _, A, c, h, _⟩ := hv
    exact ⟨A, c, h⟩
  clear hv
  simp only [Act.put, List.setIfInBounds_toArray, List.set_cons_succ, List.set_cons_zero]
  repeat (first | (apply wpR_one; (case ho => (simp only [List.getElem?_toArray, List.getElem?_cons_succ, List.getElem?_cons_zero]; try exact rfl)); (case hw => rfl); (case hl => rfl); (case hsp => rfl); (case he => rfl); (case hv => (intro w' hw'; (try (have hw2 := Ext.trans hEW hw')); (try (have hw3 := Exc.trans hEW hw')); (try (have hw4 := Exk.trans hEW hw')); (try (have hw5 := Mrk.trans hEW hw')); go_simp; exact rfl)); (case hw0 => (first | exact Below.refl _ _ | exact Exc.of_ext (Below.refl _ _) | exact Exk.of_ext (Below.refl _ _) | exact Mrk.of_ext (Below.refl _ _))); simp only [Act.put, List.setIfInBounds_toArray, List.set_cons_succ, List.set_cons_zero]) | (apply wpR_early; (case ho => (simp only [List.getElem?_toArray, List.getElem?_cons_succ, List.getElem?_cons_zero]; try exact rfl)); (case hw => rfl); (case hl => rfl); (case hsp => rfl); (case he => rfl); (case hv => (intro w' hw'; (try have hw2 := Ext.trans hEW hw'); go_simp; exact rfl)); simp only [Act.put, List.setIfInBounds_toArray, List.set_cons_succ, List.set_cons_zero]) | (apply wpR_pass; (case ho => (simp only [List.getElem?_toArray, List.getElem?_cons_succ, List.getElem?_cons_zero]; try exact rfl)); (case hw => rfl); (case hl => rfl); simp only [Act.put, List.setIfInBounds_toArray, List.set_cons_succ, List.set_cons_zero]))
  refine wpR_new (by ((simp only [List.getElem?_toArray, List.getElem?_cons_succ, List.getElem?_cons_zero]; try exact rfl))) _ rfl rfl rfl (fun V v => LendIn.lastsK _ _ _ _ _) (fun V V' h => rfl) (fun w' hw' hK => ?_) (fun v hv => ?_)
  · have HK2 := Lib.hid (hK 2 (by kernel_rfl)).2
    have HK5 := Lib.hid (hK 5 (by kernel_rfl)).2
    have HK8 := Lib.hid (hK 8 (by kernel_rfl)).2
    clear hK
    unfold opAt; go_simp; refine upAt_enter ?_
    have k2 : PgO w2.heap.size w' (.agg #[.int .i64 p.kind, .int .i64 p.level, .slice xA0 p.items.length xc0, .slice xD0 p.data.length xd0, .int .i64 p.next]) p := HK2.out
    have k5 : PgO w2.heap.size w' (.agg #[.int .i64 q.kind, .int .i64 q.level, .slice xA1 q.items.length xc1, .slice xD1 q.data.length xd1, .int .i64 q.next]) q := HK5.out
    have k8 : SOwn 5 w2.heap.size sep (.slice xA2 sep.length xc2) w' := HK8.out
    refine (nlend_any (k2.pgv hsm1) (k5.pgv hsm2) (k8.own.sl hsl) rfl (lend_bound hpl hql)).mono ?_
    rintro e w2 ⟨v1, v2, A9, c9, rfl, o1, o2, os, hE2⟩
    rw [HLA.out] at o1
    rw [HLB.out] at o2
    rw [HLS.out] at os ⊢
    rw [HLZ.out]
    have hs2 := (hEW.trans hw').x.size
    exact ⟨_, rfl, hE2, v1, v2, A9, c9, rfl, o1.mono hs2, o2.mono hs2, os.mono hs2⟩
  obtain ⟨iA7, ic7, dA7, dc7, iA8, ic8, dA8, dc8, lA, lc, rfl⟩ : ∃ a b c d a2 b2 c2 d2 A C, v = .tuple #[.agg #[.int .i64 la.kind, .int .i64 la.level, .slice a la.items.length b, .slice c la.data.length d, .int .i64 la.next], .agg #[.int .i64 lb.kind, .int .i64 lb.level, .slice a2 lb.items.length b2, .slice c2 lb.data.length d2, .int .i64 lb.next], .slice A ls.length C, .bool lz] := by
    obtain ⟨_, _, _, v1, v2, A, C, e, o1, o2, _⟩ := hv
    obtain ⟨a, b, c, d, _, rfl, _⟩ := o1.ex
    obtain ⟨a2, b2, c2, d2, _, rfl, _⟩ := o2.ex
    exact ⟨a, b, c, d, a2, b2, c2, d2, A, C, e⟩
  clear hv
  simp only [Act.put, List.setIfInBounds_toArray, List.set_cons_succ, List.set_cons_zero]
  repeat (first | (apply wpR_one; (case ho => (simp only [List.getElem?_toArray, List.getElem?_cons_succ, List.getElem?_cons_zero]; try exact rfl)); (case hw => rfl); (case hl => rfl); (case hsp => rfl); (case he => rfl); (case hv => (intro w' hw'; (try (have hw2 := Ext.trans hEW hw')); (try (have hw3 := Exc.trans hEW hw')); (try (have hw4 := Exk.trans hEW hw')); (try (have hw5 := Mrk.trans hEW hw')); go_simp; exact rfl)); (case hw0 => (first | exact Below.refl _ _ | exact Exc.of_ext (Below.refl _ _) | exact Exk.of_ext (Below.refl _ _) | exact Mrk.of_ext (Below.refl _ _))); simp only [Act.put, List.setIfInBounds_toArray, List.set_cons_succ, List.set_cons_zero]) | (apply wpR_early; (case ho => (simp only [List.getElem?_toArray, List.getElem?_cons_succ, List.getElem?_cons_zero]; try exact rfl)); (case hw => rfl); (case hl => rfl); (case hsp => rfl); (case he => rfl); (case hv => (intro w' hw'; (try have hw2 := Ext.trans hEW hw'); go_simp; exact rfl)); simp only [Act.put, List.setIfInBounds_toArray, List.set_cons_succ, List.set_cons_zero]) | (apply wpR_pass; (case ho => (simp only [List.getElem?_toArray, List.getElem?_cons_succ, List.getElem?_cons_zero]; try exact rfl)); (case hw => rfl); (case hl => rfl); simp only [Act.put, List.setIfInBounds_toArray, List.set_cons_succ, List.set_cons_zero]))
  refine wpR_alloc (by ((simp only [List.getElem?_toArray, List.getElem?_cons_succ, List.getElem?_cons_zero]; try exact rfl))) _ rfl rfl rfl (fun V v => PgCell.lasts _ _) (fun V V' h => rfl) (fun w' hw' hK => ?_) (fun v hv => ?_)
  · have hXs := (hEW.trans hw').x.size
    unfold opAt
    go_simp
    exact upAt_value ⟨ext_alloc _ _, ⟨_, rfl, hXs, _, heap_alloc_new _ _, rfl⟩, fun _ g hg => by injection hg with hg; exact ⟨hg.symm, by simp⟩⟩
  obtain ⟨g7, rfl⟩ : ∃ g, v = .pointer (some ⟨g, 0, none⟩) := by
    obtain ⟨_, _, _, g, e, _⟩ := hv
    exact ⟨g, e⟩
  clear hv
  simp only [Act.put, List.setIfInBounds_toArray, List.set_cons_succ, List.set_cons_zero]
  refine wpR_alloc (by ((simp only [List.getElem?_toArray, List.getElem?_cons_succ, List.getElem?_cons_zero]; try exact rfl))) _ rfl rfl rfl (fun V v => PgCell.lasts _ _) (fun V V' h => rfl) (fun w' hw' hK => ?_) (fun v hv => ?_)
  · have hXs := (hEW.trans hw').x.size
    unfold opAt
    go_simp
    exact upAt_value ⟨ext_alloc _ _, ⟨_, rfl, hXs, _, heap_alloc_new _ _, rfl⟩, fun _ g hg => by injection hg with hg; exact ⟨hg.symm, by simp⟩⟩
  obtain ⟨g8, rfl⟩ : ∃ g, v = .pointer (some ⟨g, 0, none⟩) := by
    obtain ⟨_, _, _, g, e, _⟩ := hv
    exact ⟨g, e⟩
  clear hv
  simp only [Act.put, List.setIfInBounds_toArray, List.set_cons_succ, List.set_cons_zero]
  refine wpR_late (by ((simp only [List.getElem?_toArray, List.getElem?_cons_succ, List.getElem?_cons_zero]; try exact rfl))) _ rfl rfl (fun V v w' w2 h he => h.ext he) (fun V V' h => by simp only [h 11 (by kernel_rfl), h 17 (by kernel_rfl)]) (fun w' hw' hK hF => ?_) (fun v hv => ?_)
  · obtain ⟨g, e8, hg8, cs, hb8, hs8⟩ := (hK 17 (by kernel_rfl)).2
    obtain rfl := ptr_inj (show Value.pointer (some ⟨g7, 0, none⟩) = _ from e8)
    refine opAt_list rfl #[] (fun Q hQ => ?_)
    refine wpList_store_box rfl 26 _ _ rfl g7 _ rfl rfl 26 _ hb8 (by kernel_rfl) hs8 (by simp [Value.oneCell']) (fun w2 hb hg => ?_)
    exact hQ _ _ ⟨Exk.of_only hg hb8 hb (by rw [hs8]; rfl) ⟨hg8, _, _, rfl⟩, ⟨g7, _, rfl, hg8, rfl, hb⟩⟩
  clear hv
  simp only [Act.put, List.setIfInBounds_toArray, List.set_cons_succ, List.set_cons_zero]
  refine wpR_lateP (by ((simp only [List.getElem?_toArray, List.getElem?_cons_succ, List.getElem?_cons_zero]; try exact rfl))) _ rfl rfl (fun V v w' w2 h he => ⟨h.1.ext he, h.2.1.ext he, h.2.2⟩) (fun V V' h => by simp only [h 11 (by kernel_rfl), h 17 (by kernel_rfl), h 18 (by kernel_rfl)]) (fun w' hw' hK hF hP => ?_) (fun v hv => ?_)
  · obtain ⟨g, e9, hg9, cs, hb9, hs9⟩ := (hK 18 (by kernel_rfl)).2
    obtain rfl := ptr_inj (show Value.pointer (some ⟨g8, 0, none⟩) = _ from e9)
    have hne : g7 ≠ g8 := fun e => hP 17 18 (by kernel_rfl) (by kernel_rfl) (by decide) (by kernel_rfl) (by kernel_rfl) g7 rfl (by rw [e]; rfl)
    obtain ⟨g', cs', e10, hg10, e11, hb10⟩ := hF
    obtain rfl := ptr_inj (show Value.pointer (some ⟨g7, 0, none⟩) = _ from e10)
    refine opAt_list rfl #[] (fun Q hQ => ?_)
    refine wpList_store_box rfl 26 _ _ rfl g8 _ rfl rfl 26 _ hb9 (by kernel_rfl) hs9 (by simp [Value.oneCell']) (fun w2 hb hg => ?_)
    exact hQ _ _ ⟨Exk.of_only hg hb9 hb (by rw [hs9]; rfl) ⟨hg9, _, _, rfl⟩, ⟨g7, _, rfl, hg10, e11, blk_other hb10 hg hne⟩, ⟨g8, _, rfl, hg9, rfl, hb⟩, fun e => hne (ptr_inj (show Value.pointer (some ⟨g7, 0, none⟩) = Value.pointer (some ⟨g8, 0, none⟩) from e))⟩
  clear hv
  simp only [Act.put, List.setIfInBounds_toArray, List.set_cons_succ, List.set_cons_zero]
  repeat (first | (apply wpR_one; (case ho => (simp only [List.getElem?_toArray, List.getElem?_cons_succ, List.getElem?_cons_zero]; try exact rfl)); (case hw => rfl); (case hl => rfl); (case hsp => rfl); (case he => rfl); (case hv => (intro w' hw'; (try (have hw2 := Ext.trans hEW hw')); (try (have hw3 := Exc.trans hEW hw')); (try (have hw4 := Exk.trans hEW hw')); (try (have hw5 := Mrk.trans hEW hw')); go_simp; exact rfl)); (case hw0 => (first | exact Below.refl _ _ | exact Exc.of_ext (Below.refl _ _) | exact Exk.of_ext (Below.refl _ _) | exact Mrk.of_ext (Below.refl _ _))); simp only [Act.put, List.setIfInBounds_toArray, List.set_cons_succ, List.set_cons_zero]) | (apply wpR_early; (case ho => (simp only [List.getElem?_toArray, List.getElem?_cons_succ, List.getElem?_cons_zero]; try exact rfl)); (case hw => rfl); (case hl => rfl); (case hsp => rfl); (case he => rfl); (case hv => (intro w' hw'; (try have hw2 := Ext.trans hEW hw'); go_simp; exact rfl)); simp only [Act.put, List.setIfInBounds_toArray, List.set_cons_succ, List.set_cons_zero]) | (apply wpR_pass; (case ho => (simp only [List.getElem?_toArray, List.getElem?_cons_succ, List.getElem?_cons_zero]; try exact rfl)); (case hw => rfl); (case hl => rfl); simp only [Act.put, List.setIfInBounds_toArray, List.set_cons_succ, List.set_cons_zero]))
  apply wpR_nil
  apply hN
  intro w3 hE' hK hF
  have hEn := hXb w3 hE'
  have hk := (hK 11).2
  obtain ⟨hq1, hq2, hq3, hG1, hG2⟩ : PgV w3 (.agg #[.int .i64 la.kind, .int .i64 la.level, .slice iA7 la.items.length ic7, .slice dA7 la.data.length dc7, .int .i64 la.next]) la ∧ PgV w3 (.agg #[.int .i64 lb.kind, .int .i64 lb.level, .slice iA8 lb.items.length ic8, .slice dA8 lb.data.length dc8, .int .i64 lb.next]) lb ∧ Sl w3 lA lc ls ∧ w3.heap[g7]? = some (.cells #[.int .i64 la.kind, .int .i64 la.level, .slice iA7 la.items.length ic7, .slice dA7 la.data.length dc7, .int .i64 la.next] 26) ∧ w3.heap[g8]? = some (.cells #[.int .i64 lb.kind, .int .i64 lb.level, .slice iA8 lb.items.length ic8, .slice dA8 lb.data.length dc8, .int .i64 lb.next] 26) := by
    obtain ⟨v1, v2, A9, c9, e, o1, o2, os⟩ := hk
    have e' : Value.tuple #[.agg #[.int .i64 la.kind, .int .i64 la.level, .slice iA7 la.items.length ic7, .slice dA7 la.data.length dc7, .int .i64 la.next], .agg #[.int .i64 lb.kind, .int .i64 lb.level, .slice iA8 lb.items.length ic8, .slice dA8 lb.data.length dc8, .int .i64 lb.next], .slice lA ls.length lc, .bool lz] = .tuple #[v1, v2, .slice A9 ls.length c9, .bool lz] := e
    simp only [Value.tuple.injEq, Array.mk.injEq, List.cons.injEq, Value.slice.injEq, and_true, true_and] at e'
    obtain ⟨rfl, rfl, rfl, rfl⟩ := e'
    obtain ⟨s1, s2, _⟩ := hF
    obtain ⟨_, _, x1, x2, x3, x4⟩ := s1
    obtain rfl := ptr_inj x1
    have x3' : Value.agg #[.int .i64 la.kind, .int .i64 la.level, .slice iA7 la.items.length ic7, .slice dA7 la.data.length dc7, .int .i64 la.next] = _ := x3
    injection x3' with x3'
    subst x3'
    obtain ⟨_, _, y1, y2, y3, y4⟩ := s2
    obtain rfl := ptr_inj y1
    have y3' : Value.agg #[.int .i64 lb.kind, .int .i64 lb.level, .slice iA8 lb.items.length ic8, .slice dA8 lb.data.length dc8, .int .i64 lb.next] = _ := y3
    injection y3' with y3'
    subst y3'
    exact ⟨o1.pgv hlm.a, o2.pgv hlm.b, os.sl hlm.c, x4, y4⟩
  have HG7 := Lib.hid hG1
  have HG8 := Lib.hid hG2
  clear hG1 hG2
  clear hk hK hN hF t0 t1 t2 t3 t4 t5 t6 t7 t8 t9 t10 t11 hX hXb hEW hE' hW hF0 hw0
  replace HT := Lib.hid (hEn.blk HT.out)
  replace hE := hE.trans hEn
  clear hEn
  have hfld := run_field_items
  have ct0 := cell_of_row w3 w.heap.size 0 _ _ _ HT.out
  have ct1 := cell_of_row w3 w.heap.size 1 _ _ _ HT.out
  have ct2 := cell_of_row w3 w.heap.size 2 _ _ _ HT.out
  have ct3 := cell_of_row w3 w.heap.size 3 _ _ _ HT.out
  have ct4 := cell_of_row w3 w.heap.size 4 _ _ _ HT.out
  have ct5 := cell_of_row w3 w.heap.size 5 _ _ _ HT.out
  have ct6 := cell_of_row w3 w.heap.size 6 _ _ _ HT.out
  have ct7 := cell_of_row w3 w.heap.size 7 _ _ _ HT.out
  have ct8 := cell_of_row w3 w.heap.size 8 _ _ _ HT.out
  have ct9 := cell_of_row w3 w.heap.size 9 _ _ _ HT.out
  have ct10 := cell_of_row w3 w.heap.size 10 _ _ _ HT.out
  have ct11 := cell_of_row w3 w.heap.size 11 _ _ _ HT.out
  simp only [List.getElem?_toArray, List.getElem?_cons_zero, List.getElem?_cons_succ] at ct0 ct1 ct2 ct3 ct4 ct5 ct6 ct7 ct8 ct9 ct10 ct11
  go_wp2_with fail
  clear ct0 ct1 ct2 ct3 ct4 ct5 ct6 ct7 ct8 ct9 ct10 ct11
  refine gives_true.mono ?_
  rintro e w4 ⟨rfl, hE4⟩
  replace HT := Lib.hid (hE4.blk HT.out)
  replace HG7 := Lib.hid (hE4.blk HG7.out)
  replace HG8 := Lib.hid (hE4.blk HG8.out)
  replace hq1 := hq1.ext hE4
  replace hq2 := hq2.ext hE4
  replace hq3 := hq3.ext hE4
  replace hE := hE.trans hE4
  clear hE4
  have ct0 := cell_of_row w4 w.heap.size 0 _ _ _ HT.out
  have ct1 := cell_of_row w4 w.heap.size 1 _ _ _ HT.out
  have ct2 := cell_of_row w4 w.heap.size 2 _ _ _ HT.out
  have ct3 := cell_of_row w4 w.heap.size 3 _ _ _ HT.out
  have ct4 := cell_of_row w4 w.heap.size 4 _ _ _ HT.out
  have ct5 := cell_of_row w4 w.heap.size 5 _ _ _ HT.out
  have ct6 := cell_of_row w4 w.heap.size 6 _ _ _ HT.out
  have ct7 := cell_of_row w4 w.heap.size 7 _ _ _ HT.out
  have ct8 := cell_of_row w4 w.heap.size 8 _ _ _ HT.out
  have ct9 := cell_of_row w4 w.heap.size 9 _ _ _ HT.out
  have ct10 := cell_of_row w4 w.heap.size 10 _ _ _ HT.out
  have ct11 := cell_of_row w4 w.heap.size 11 _ _ _ HT.out
  simp only [List.getElem?_toArray, List.getElem?_cons_zero, List.getElem?_cons_succ] at ct0 ct1 ct2 ct3 ct4 ct5 ct6 ct7 ct8 ct9 ct10 ct11
  have HLZ2 := Lib.hid (show lz = (decide (2 ≤ p.items.length) && decide (q.items.length < 8)) by
    rw [← HLZ.out, lend_law HF.out, lendOk_iff HF.out]
    rfl)
  by_cases hg : 2 ≤ p.items.length
  rotate_left
  · obtain rfl : lz = false := by rw [HLZ2.out]; simp [hg]
    have hg1 : (p.items.length : Int) < 2 := by omega
    clear hg
    go_wp2
    go_ret
    exact ⟨rfl, hE⟩
  have hg1 : (2 : Int) ≤ p.items.length := by omega
  go_wp2_with fail
  clear ct0 ct1 ct2 ct3 ct4 ct5 ct6 ct7 ct8 ct9 ct10 ct11
  refine takes_true.mono ?_
  rintro e w5 ⟨rfl, hE5⟩
  replace HT := Lib.hid (hE5.blk HT.out)
  replace HG7 := Lib.hid (hE5.blk HG7.out)
  replace HG8 := Lib.hid (hE5.blk HG8.out)
  replace hq1 := hq1.ext hE5
  replace hq2 := hq2.ext hE5
  replace hq3 := hq3.ext hE5
  replace hE := hE.trans hE5
  clear hE5
  by_cases ht : q.items.length < 8
  rotate_left
  · obtain rfl : lz = false := by rw [HLZ2.out]; simp [ht]
    have ht1 : (8 : Int) ≤ q.items.length := by omega
    clear ht
    go_wp2
    go_ret
    exact ⟨rfl, hE⟩
  have ht1 : (q.items.length : Int) < 8 := by omega
  obtain rfl : lz = true := by rw [HLZ2.out]; simp [hg, ht]
  have HSO := Lib.hid (show lendB p q sep true = some (la, lb, ls) by
    have h1 := HLA.out
    have h2 := HLB.out
    have h3 := HLS.out
    have h4 := HLZ.out
    cases h : lendB p q sep true with
    | none => rw [h] at h4; cases h4
    | some r =>
      rw [h] at h1 h2 h3
      obtain ⟨a, b, s⟩ := r
      obtain rfl : a = la := h1
      obtain rfl : b = lb := h2
      obtain rfl : s = ls := h3
      rfl)
  have HLT := Lib.hid (lend_some HF.out HSO.out)
  have hmin := fit_min HF.out
  have HALL := Lib.hid (show allB la lb ls = allB p q sep by
    rw [allB_row (by rw [HLT.out.kind.1, HLT.out.kind.2]; exact HF.out.kind), allB_row HF.out.kind, HLT.out.row])
  have htk : lb.items.length = q.items.length + 1 := HLT.out.takes
  have hwr : IntKind.i64.wrap ((q.items.length : Int) + 1) = (q.items.length : Int) + 1 := IntWalk.i64_in _ (by omega)
  have hne : (((q.items.length : Int) + 1) != (lb.items.length : Int)) = false := by rw [htk]; simp
  have HTK := Lib.hid htk
  have HMIN := Lib.hid hmin
  clear hg ht htk hmin
  go_wp2_with fail
  have e0 : ∀ w', Ext w5 w' → w'.cell? ⟨w.heap.size, 0, none⟩ = some (.int .i64 p.kind) := fun w' h => cell_of_row _ _ _ _ _ _ (h.blk HT.out)
  have e1 : ∀ w', Ext w5 w' → w'.cell? ⟨w.heap.size, 1, none⟩ = some (.int .i64 p.level) := fun w' h => cell_of_row _ _ _ _ _ _ (h.blk HT.out)
  have e2 : ∀ w', Ext w5 w' → w'.cell? ⟨w.heap.size, 2, none⟩ = some (.slice iA p.items.length ic) := fun w' h => cell_of_row _ _ _ _ _ _ (h.blk HT.out)
  have e3 : ∀ w', Ext w5 w' → w'.cell? ⟨w.heap.size, 3, none⟩ = some (.slice dA p.data.length dc) := fun w' h => cell_of_row _ _ _ _ _ _ (h.blk HT.out)
  have e4 : ∀ w', Ext w5 w' → w'.cell? ⟨w.heap.size, 4, none⟩ = some (.int .i64 p.next) := fun w' h => cell_of_row _ _ _ _ _ _ (h.blk HT.out)
  have e5 : ∀ w', Ext w5 w' → w'.cell? ⟨w.heap.size, 5, none⟩ = some (.int .i64 q.kind) := fun w' h => cell_of_row _ _ _ _ _ _ (h.blk HT.out)
  have e6 : ∀ w', Ext w5 w' → w'.cell? ⟨w.heap.size, 6, none⟩ = some (.int .i64 q.level) := fun w' h => cell_of_row _ _ _ _ _ _ (h.blk HT.out)
  have e7 : ∀ w', Ext w5 w' → w'.cell? ⟨w.heap.size, 7, none⟩ = some (.slice jA q.items.length jc) := fun w' h => cell_of_row _ _ _ _ _ _ (h.blk HT.out)
  have e8 : ∀ w', Ext w5 w' → w'.cell? ⟨w.heap.size, 8, none⟩ = some (.slice eA q.data.length ec) := fun w' h => cell_of_row _ _ _ _ _ _ (h.blk HT.out)
  have e9 : ∀ w', Ext w5 w' → w'.cell? ⟨w.heap.size, 9, none⟩ = some (.int .i64 q.next) := fun w' h => cell_of_row _ _ _ _ _ _ (h.blk HT.out)
  have e10 : ∀ w', Ext w5 w' → w'.cell? ⟨w.heap.size, 10, none⟩ = some (.slice sA sep.length sc) := fun w' h => cell_of_row _ _ _ _ _ _ (h.blk HT.out)
  have e11 : ∀ w', Ext w5 w' → w'.cell? ⟨w.heap.size, 11, none⟩ = some (.bool true) := fun w' h => cell_of_row _ _ _ _ _ _ (h.blk HT.out)
  have x0 : ∀ w', Ext w5 w' → w'.cell? ⟨g7, 0, none⟩ = some (.int .i64 la.kind) := fun w' h => cell_of_row _ _ _ _ _ _ (h.blk HG7.out)
  have x1 : ∀ w', Ext w5 w' → w'.cell? ⟨g7, 1, none⟩ = some (.int .i64 la.level) := fun w' h => cell_of_row _ _ _ _ _ _ (h.blk HG7.out)
  have x2 : ∀ w', Ext w5 w' → w'.cell? ⟨g7, 2, none⟩ = some (.slice iA7 la.items.length ic7) := fun w' h => cell_of_row _ _ _ _ _ _ (h.blk HG7.out)
  have x3 : ∀ w', Ext w5 w' → w'.cell? ⟨g7, 3, none⟩ = some (.slice dA7 la.data.length dc7) := fun w' h => cell_of_row _ _ _ _ _ _ (h.blk HG7.out)
  have x4 : ∀ w', Ext w5 w' → w'.cell? ⟨g7, 4, none⟩ = some (.int .i64 la.next) := fun w' h => cell_of_row _ _ _ _ _ _ (h.blk HG7.out)
  have y0 : ∀ w', Ext w5 w' → w'.cell? ⟨g8, 0, none⟩ = some (.int .i64 lb.kind) := fun w' h => cell_of_row _ _ _ _ _ _ (h.blk HG8.out)
  have y1 : ∀ w', Ext w5 w' → w'.cell? ⟨g8, 1, none⟩ = some (.int .i64 lb.level) := fun w' h => cell_of_row _ _ _ _ _ _ (h.blk HG8.out)
  have y2 : ∀ w', Ext w5 w' → w'.cell? ⟨g8, 2, none⟩ = some (.slice iA8 lb.items.length ic8) := fun w' h => cell_of_row _ _ _ _ _ _ (h.blk HG8.out)
  have y3 : ∀ w', Ext w5 w' → w'.cell? ⟨g8, 3, none⟩ = some (.slice dA8 lb.data.length dc8) := fun w' h => cell_of_row _ _ _ _ _ _ (h.blk HG8.out)
  have y4 : ∀ w', Ext w5 w' → w'.cell? ⟨g8, 4, none⟩ = some (.int .i64 lb.next) := fun w' h => cell_of_row _ _ _ _ _ _ (h.blk HG8.out)
  refine wp_region_rg Ext rel_ext (fun _ => True) [0, 1, 2, 3, 4, 5, 6, 7, 8, 9, 10, 11, 12, 13, 14, 15, 16, 17, 18, 19, 20, 21, 22, 23, 24, 25, 26] (fun i => match i with
    | 9 => some fun _ => eqV (.bool true)
    | 13 => some fun _ => eqV (.agg #[.int .i64 q.kind, .int .i64 q.level, .slice jA q.items.length jc, .slice eA q.data.length ec, .int .i64 q.next])
    | 22 => some fun _ => eqV (.agg #[.int .i64 lb.kind, .int .i64 lb.level, .slice iA8 lb.items.length ic8, .slice dA8 lb.data.length dc8, .int .i64 lb.next])
    | _ => none) (fun _ => none) (fun _ => false) (by kernel_rfl) (by kernel_rfl) (fun _ _ _ _ => trivial) trivial (fun W N hW _ hN => ?_)
  have hEW : Ext w5 W := hW
  repeat (first | (apply wpR_one; (case ho => (simp only [List.getElem?_toArray, List.getElem?_cons_succ, List.getElem?_cons_zero]; try exact rfl)); (case hw => rfl); (case hl => rfl); (case hsp => rfl); (case he => rfl); (case hv => (intro w' hw'; (try (have hw2 := Ext.trans hEW hw')); (try (have hw3 := Exc.trans hEW hw')); (try (have hw4 := Exk.trans hEW hw')); (try (have hw5 := Mrk.trans hEW hw')); go_simp; exact rfl)); (case hw0 => (first | exact Below.refl _ _ | exact Exc.of_ext (Below.refl _ _) | exact Exk.of_ext (Below.refl _ _) | exact Mrk.of_ext (Below.refl _ _))); simp only [Act.put, List.setIfInBounds_toArray, List.set_cons_succ, List.set_cons_zero]) | (apply wpR_early; (case ho => (simp only [List.getElem?_toArray, List.getElem?_cons_succ, List.getElem?_cons_zero]; try exact rfl)); (case hw => rfl); (case hl => rfl); (case hsp => rfl); (case he => rfl); (case hv => (intro w' hw'; (try have hw2 := Ext.trans hEW hw'); go_simp; exact rfl)); simp only [Act.put, List.setIfInBounds_toArray, List.set_cons_succ, List.set_cons_zero]) | (apply wpR_pass; (case ho => (simp only [List.getElem?_toArray, List.getElem?_cons_succ, List.getElem?_cons_zero]; try exact rfl)); (case hw => rfl); (case hl => rfl); simp only [Act.put, List.setIfInBounds_toArray, List.set_cons_succ, List.set_cons_zero]))
  refine wpR_new (by ((simp only [List.getElem?_toArray, List.getElem?_cons_succ, List.getElem?_cons_zero]; try exact rfl))) _ rfl rfl rfl (fun V v => eqV.lasts _ v) (fun V V' h => rfl) (fun w' hw' hK => ?_) (fun u hu => ?_)
  · clear hK
    have hX5 := hEW.trans hw'
    have hX := hE.trans hX5
    unfold opAt; go_simp; refine upAt_enter ?_
    refine (same_any (hv1.ext hX) (hv2.ext hX) (hs.ext hX) rfl (hq1.ext hX5) (hq2.ext hX5) (hq3.ext hX5) rfl (by have := HMIN.out; omega) HALL.out).mono ?_
    rintro e w9 ⟨rfl, hE9⟩
    exact ⟨_, rfl, hE9, rfl⟩
  obtain rfl : u = .bool true := hu.choose_spec.2.2
  clear hu
  simp only [Act.put, List.setIfInBounds_toArray, List.set_cons_succ, List.set_cons_zero]
  repeat (first | (apply wpR_one; (case ho => (simp only [List.getElem?_toArray, List.getElem?_cons_succ, List.getElem?_cons_zero]; try exact rfl)); (case hw => rfl); (case hl => rfl); (case hsp => rfl); (case he => rfl); (case hv => (intro w' hw'; (try (have hw2 := Ext.trans hEW hw')); (try (have hw3 := Exc.trans hEW hw')); (try (have hw4 := Exk.trans hEW hw')); (try (have hw5 := Mrk.trans hEW hw')); go_simp; exact rfl)); (case hw0 => (first | exact Below.refl _ _ | exact Exc.of_ext (Below.refl _ _) | exact Exk.of_ext (Below.refl _ _) | exact Mrk.of_ext (Below.refl _ _))); simp only [Act.put, List.setIfInBounds_toArray, List.set_cons_succ, List.set_cons_zero]) | (apply wpR_early; (case ho => (simp only [List.getElem?_toArray, List.getElem?_cons_succ, List.getElem?_cons_zero]; try exact rfl)); (case hw => rfl); (case hl => rfl); (case hsp => rfl); (case he => rfl); (case hv => (intro w' hw'; (try have hw2 := Ext.trans hEW hw'); go_simp; exact rfl)); simp only [Act.put, List.setIfInBounds_toArray, List.set_cons_succ, List.set_cons_zero]) | (apply wpR_pass; (case ho => (simp only [List.getElem?_toArray, List.getElem?_cons_succ, List.getElem?_cons_zero]; try exact rfl)); (case hw => rfl); (case hl => rfl); simp only [Act.put, List.setIfInBounds_toArray, List.set_cons_succ, List.set_cons_zero]))
  refine wpR_new (by ((simp only [List.getElem?_toArray, List.getElem?_cons_succ, List.getElem?_cons_zero]; try exact rfl))) _ rfl rfl rfl (fun V v => eqV.lasts _ v) (fun V V' h => rfl) (fun w' hw' hK => ?_) (fun u hu => ?_)
  · clear hK
    unfold opAt; go_simp; refine upAt_enter ?_
    refine takes_true.mono ?_
    rintro e w9 ⟨rfl, hE9⟩
    exact ⟨_, rfl, hE9, rfl⟩
  obtain rfl : u = .agg #[.int .i64 q.kind, .int .i64 q.level, .slice jA q.items.length jc, .slice eA q.data.length ec, .int .i64 q.next] := hu.choose_spec.2.2
  clear hu
  simp only [Act.put, List.setIfInBounds_toArray, List.set_cons_succ, List.set_cons_zero]
  repeat (first | (apply wpR_one; (case ho => (simp only [List.getElem?_toArray, List.getElem?_cons_succ, List.getElem?_cons_zero]; try exact rfl)); (case hw => rfl); (case hl => rfl); (case hsp => rfl); (case he => rfl); (case hv => (intro w' hw'; (try (have hw2 := Ext.trans hEW hw')); (try (have hw3 := Exc.trans hEW hw')); (try (have hw4 := Exk.trans hEW hw')); (try (have hw5 := Mrk.trans hEW hw')); go_simp; exact rfl)); (case hw0 => (first | exact Below.refl _ _ | exact Exc.of_ext (Below.refl _ _) | exact Exk.of_ext (Below.refl _ _) | exact Mrk.of_ext (Below.refl _ _))); simp only [Act.put, List.setIfInBounds_toArray, List.set_cons_succ, List.set_cons_zero]) | (apply wpR_early; (case ho => (simp only [List.getElem?_toArray, List.getElem?_cons_succ, List.getElem?_cons_zero]; try exact rfl)); (case hw => rfl); (case hl => rfl); (case hsp => rfl); (case he => rfl); (case hv => (intro w' hw'; (try have hw2 := Ext.trans hEW hw'); go_simp; exact rfl)); simp only [Act.put, List.setIfInBounds_toArray, List.set_cons_succ, List.set_cons_zero]) | (apply wpR_pass; (case ho => (simp only [List.getElem?_toArray, List.getElem?_cons_succ, List.getElem?_cons_zero]; try exact rfl)); (case hw => rfl); (case hl => rfl); simp only [Act.put, List.setIfInBounds_toArray, List.set_cons_succ, List.set_cons_zero]))
  refine wpR_new (by ((simp only [List.getElem?_toArray, List.getElem?_cons_succ, List.getElem?_cons_zero]; try exact rfl))) _ rfl rfl rfl (fun V v => eqV.lasts _ v) (fun V V' h => rfl) (fun w' hw' hK => ?_) (fun u hu => ?_)
  · clear hK
    unfold opAt; go_simp; refine upAt_enter ?_
    refine takes_true.mono ?_
    rintro e w9 ⟨rfl, hE9⟩
    exact ⟨_, rfl, hE9, rfl⟩
  obtain rfl : u = .agg #[.int .i64 lb.kind, .int .i64 lb.level, .slice iA8 lb.items.length ic8, .slice dA8 lb.data.length dc8, .int .i64 lb.next] := hu.choose_spec.2.2
  clear hu
  simp only [Act.put, List.setIfInBounds_toArray, List.set_cons_succ, List.set_cons_zero]
  repeat (first | (apply wpR_one; (case ho => (simp only [List.getElem?_toArray, List.getElem?_cons_succ, List.getElem?_cons_zero]; try exact rfl)); (case hw => rfl); (case hl => rfl); (case hsp => rfl); (case he => rfl); (case hv => (intro w' hw'; (try (have hw2 := Ext.trans hEW hw')); (try (have hw3 := Exc.trans hEW hw')); (try (have hw4 := Exk.trans hEW hw')); (try (have hw5 := Mrk.trans hEW hw')); go_simp; exact rfl)); (case hw0 => (first | exact Below.refl _ _ | exact Exc.of_ext (Below.refl _ _) | exact Exk.of_ext (Below.refl _ _) | exact Mrk.of_ext (Below.refl _ _))); simp only [Act.put, List.setIfInBounds_toArray, List.set_cons_succ, List.set_cons_zero]) | (apply wpR_early; (case ho => (simp only [List.getElem?_toArray, List.getElem?_cons_succ, List.getElem?_cons_zero]; try exact rfl)); (case hw => rfl); (case hl => rfl); (case hsp => rfl); (case he => rfl); (case hv => (intro w' hw'; (try have hw2 := Ext.trans hEW hw'); go_simp; exact rfl)); simp only [Act.put, List.setIfInBounds_toArray, List.set_cons_succ, List.set_cons_zero]) | (apply wpR_pass; (case ho => (simp only [List.getElem?_toArray, List.getElem?_cons_succ, List.getElem?_cons_zero]; try exact rfl)); (case hw => rfl); (case hl => rfl); simp only [Act.put, List.setIfInBounds_toArray, List.set_cons_succ, List.set_cons_zero]))
  apply wpR_nil
  apply hN
  intro w6 hE' hK hF
  have hE6 := hEW.trans hE'
  replace HT := Lib.hid (hE6.blk HT.out)
  replace HG7 := Lib.hid (hE6.blk HG7.out)
  replace HG8 := Lib.hid (hE6.blk HG8.out)
  replace hq1 := hq1.ext hE6
  replace hq2 := hq2.ext hE6
  replace hq3 := hq3.ext hE6
  replace hE := hE.trans hE6
  clear hK hF hN hEW hE' hW hE6 hwr e0 e1 e2 e3 e4 e5 e6 e7 e8 e9 e10 e11 x0 x1 x2 x3 x4 y0 y1 y2 y3 y4
  have ct0 := cell_of_row w6 w.heap.size 0 _ _ _ HT.out
  have ct1 := cell_of_row w6 w.heap.size 1 _ _ _ HT.out
  have ct2 := cell_of_row w6 w.heap.size 2 _ _ _ HT.out
  have ct3 := cell_of_row w6 w.heap.size 3 _ _ _ HT.out
  have ct4 := cell_of_row w6 w.heap.size 4 _ _ _ HT.out
  have ct5 := cell_of_row w6 w.heap.size 5 _ _ _ HT.out
  have ct6 := cell_of_row w6 w.heap.size 6 _ _ _ HT.out
  have ct7 := cell_of_row w6 w.heap.size 7 _ _ _ HT.out
  have ct8 := cell_of_row w6 w.heap.size 8 _ _ _ HT.out
  have ct9 := cell_of_row w6 w.heap.size 9 _ _ _ HT.out
  have ct10 := cell_of_row w6 w.heap.size 10 _ _ _ HT.out
  have ct11 := cell_of_row w6 w.heap.size 11 _ _ _ HT.out
  simp only [List.getElem?_toArray, List.getElem?_cons_zero, List.getElem?_cons_succ] at ct0 ct1 ct2 ct3 ct4 ct5 ct6 ct7 ct8 ct9 ct10 ct11
  have hcs : (p.kind == 2) = false ∨ ((p.kind == 2) = true ∧ (p.items.length : Int) < 3) ∨ ((p.kind == 2) = true ∧ (3 : Int) ≤ p.items.length) := by
    cases h : p.kind == 2
    · exact .inl rfl
    · by_cases h3 : 3 ≤ p.items.length
      · exact .inr (.inr ⟨rfl, by omega⟩)
      · exact .inr (.inl ⟨rfl, by omega⟩)
  rcases hcs with c1 | ⟨c1, hg3⟩ | ⟨c1, hg3⟩
  · have HG3 := Lib.hid (show p.kind = 2 → 3 ≤ givesN p q true from fun h => by simp [h] at c1)
    obtain ⟨u, HU⟩ : ∃ u, Hid (lendB la lb ls false = some (p, q, u) ∧ (p.kind ≠ 1 → u = sep) ∧ FitP p q u) := by
      obtain ⟨u, h1, h2, h3⟩ := HLT.out.back HG3.out
      exact ⟨u, Lib.hid ⟨h1, h2, h3⟩⟩
    have HF2 := Lib.hid (HLT.out.fit HG3.out)
    have cg70 := cell_of_row w6 g7 0 _ _ _ HG7.out
    have cg71 := cell_of_row w6 g7 1 _ _ _ HG7.out
    have cg72 := cell_of_row w6 g7 2 _ _ _ HG7.out
    have cg73 := cell_of_row w6 g7 3 _ _ _ HG7.out
    have cg74 := cell_of_row w6 g7 4 _ _ _ HG7.out
    simp only [List.getElem?_toArray, List.getElem?_cons_zero, List.getElem?_cons_succ] at cg70 cg71 cg72 cg73 cg74
    have cg80 := cell_of_row w6 g8 0 _ _ _ HG8.out
    have cg81 := cell_of_row w6 g8 1 _ _ _ HG8.out
    have cg82 := cell_of_row w6 g8 2 _ _ _ HG8.out
    have cg83 := cell_of_row w6 g8 3 _ _ _ HG8.out
    have cg84 := cell_of_row w6 g8 4 _ _ _ HG8.out
    simp only [List.getElem?_toArray, List.getElem?_cons_zero, List.getElem?_cons_succ] at cg80 cg81 cg82 cg83 cg84
    go_wp2_with fail
    clear ct0 ct1 ct2 ct3 ct4 ct5 ct6 ct7 ct8 ct9 ct10 ct11 cg70 cg71 cg72 cg73 cg74 cg80 cg81 cg82 cg83 cg84
    refine (fits_any hq1 hq2 hq3 rfl).mono ?_
    rintro e wa ⟨z, rfl, hz, hEa⟩
    obtain rfl : z = true := hz.2 HF2.out
    clear hz
    replace HT := Lib.hid (hEa.blk HT.out)
    replace HG7 := Lib.hid (hEa.blk HG7.out)
    replace HG8 := Lib.hid (hEa.blk HG8.out)
    replace hq1 := hq1.ext hEa
    replace hq2 := hq2.ext hEa
    replace hq3 := hq3.ext hEa
    replace hE := hE.trans hEa
    clear hEa
    have ct0 := cell_of_row wa w.heap.size 0 _ _ _ HT.out
    have ct1 := cell_of_row wa w.heap.size 1 _ _ _ HT.out
    have ct2 := cell_of_row wa w.heap.size 2 _ _ _ HT.out
    have ct3 := cell_of_row wa w.heap.size 3 _ _ _ HT.out
    have ct4 := cell_of_row wa w.heap.size 4 _ _ _ HT.out
    have ct5 := cell_of_row wa w.heap.size 5 _ _ _ HT.out
    have ct6 := cell_of_row wa w.heap.size 6 _ _ _ HT.out
    have ct7 := cell_of_row wa w.heap.size 7 _ _ _ HT.out
    have ct8 := cell_of_row wa w.heap.size 8 _ _ _ HT.out
    have ct9 := cell_of_row wa w.heap.size 9 _ _ _ HT.out
    have ct10 := cell_of_row wa w.heap.size 10 _ _ _ HT.out
    have ct11 := cell_of_row wa w.heap.size 11 _ _ _ HT.out
    simp only [List.getElem?_toArray, List.getElem?_cons_zero, List.getElem?_cons_succ] at ct0 ct1 ct2 ct3 ct4 ct5 ct6 ct7 ct8 ct9 ct10 ct11
    have cg70 := cell_of_row wa g7 0 _ _ _ HG7.out
    have cg71 := cell_of_row wa g7 1 _ _ _ HG7.out
    have cg72 := cell_of_row wa g7 2 _ _ _ HG7.out
    have cg73 := cell_of_row wa g7 3 _ _ _ HG7.out
    have cg74 := cell_of_row wa g7 4 _ _ _ HG7.out
    simp only [List.getElem?_toArray, List.getElem?_cons_zero, List.getElem?_cons_succ] at cg70 cg71 cg72 cg73 cg74
    have cg80 := cell_of_row wa g8 0 _ _ _ HG8.out
    have cg81 := cell_of_row wa g8 1 _ _ _ HG8.out
    have cg82 := cell_of_row wa g8 2 _ _ _ HG8.out
    have cg83 := cell_of_row wa g8 3 _ _ _ HG8.out
    have cg84 := cell_of_row wa g8 4 _ _ _ HG8.out
    simp only [List.getElem?_toArray, List.getElem?_cons_zero, List.getElem?_cons_succ] at cg80 cg81 cg82 cg83 cg84
    go_wp2_with fail
    clear ct0 ct1 ct2 ct3 ct4 ct5 ct6 ct7 ct8 ct9 ct10 ct11 cg70 cg71 cg72 cg73 cg74 cg80 cg81 cg82 cg83 cg84
    refine (nlend_any hq1 hq2 hq3 rfl (fun _ => by have := fit_min HF2.out; omega)).mono ?_
    rintro e wb ⟨v1, v2, A9, c9, rfl, o1, o2, os, hEb⟩
    rw [show part1 (lendB la lb ls false) = p by rw [HU.out.1]; rfl] at o1
    rw [show part2 (lendB la lb ls false) = q by rw [HU.out.1]; rfl] at o2
    rw [show part3 (lendB la lb ls false) = u by rw [HU.out.1]; rfl] at os ⊢
    rw [show (lendB la lb ls false).isSome = true by rw [HU.out.1]; rfl]
    have r1 := o1.pgv hsm1
    have r2 := o2.pgv hsm2
    have r3 := os.sl (by have := HU.out.2.2.len; omega)
    clear o1 o2 os hq1 hq2 hq3
    obtain ⟨iA3, ic3, dA3, dc3, rfl, _, _⟩ := r1.ex
    obtain ⟨iA4, ic4, dA4, dc4, rfl, _, _⟩ := r2.ex
    clear HG7 HG8
    replace HT := Lib.hid (hEb.blk HT.out)
    replace hE := hE.trans hEb
    clear hEb
    have hx := (ext_alloc wb (.cells #[.int .i64 p.kind, .int .i64 p.level, .slice iA3 p.items.length ic3, .slice dA3 p.data.length dc3, .int .i64 p.next] 26)).trans (ext_alloc _ (.cells #[.int .i64 q.kind, .int .i64 q.level, .slice iA4 q.items.length ic4, .slice dA4 q.data.length dc4, .int .i64 q.next] 26))
    have HC := Lib.hid (heap_alloc2_old wb (.cells #[.int .i64 p.kind, .int .i64 p.level, .slice iA3 p.items.length ic3, .slice dA3 p.data.length dc3, .int .i64 p.next] 26) (.cells #[.int .i64 q.kind, .int .i64 q.level, .slice iA4 q.items.length ic4, .slice dA4 q.data.length dc4, .int .i64 q.next] 26))
    have HD := Lib.hid (heap_alloc2_new wb (.cells #[.int .i64 p.kind, .int .i64 p.level, .slice iA3 p.items.length ic3, .slice dA3 p.data.length dc3, .int .i64 p.next] 26) (.cells #[.int .i64 q.kind, .int .i64 q.level, .slice iA4 q.items.length ic4, .slice dA4 q.data.length dc4, .int .i64 q.next] 26))
    replace HT := Lib.hid (hx.blk HT.out)
    replace r1 := r1.ext hx
    replace r2 := r2.ext hx
    replace r3 := r3.ext hx
    replace hE := hE.trans hx
    clear hx
    have ct0 := cell_of_row ((wb.alloc (.cells #[.int .i64 p.kind, .int .i64 p.level, .slice iA3 p.items.length ic3, .slice dA3 p.data.length dc3, .int .i64 p.next] 26)).alloc (.cells #[.int .i64 q.kind, .int .i64 q.level, .slice iA4 q.items.length ic4, .slice dA4 q.data.length dc4, .int .i64 q.next] 26)) w.heap.size 0 _ _ _ HT.out
    have ct1 := cell_of_row ((wb.alloc (.cells #[.int .i64 p.kind, .int .i64 p.level, .slice iA3 p.items.length ic3, .slice dA3 p.data.length dc3, .int .i64 p.next] 26)).alloc (.cells #[.int .i64 q.kind, .int .i64 q.level, .slice iA4 q.items.length ic4, .slice dA4 q.data.length dc4, .int .i64 q.next] 26)) w.heap.size 1 _ _ _ HT.out
    have ct2 := cell_of_row ((wb.alloc (.cells #[.int .i64 p.kind, .int .i64 p.level, .slice iA3 p.items.length ic3, .slice dA3 p.data.length dc3, .int .i64 p.next] 26)).alloc (.cells #[.int .i64 q.kind, .int .i64 q.level, .slice iA4 q.items.length ic4, .slice dA4 q.data.length dc4, .int .i64 q.next] 26)) w.heap.size 2 _ _ _ HT.out
    have ct3 := cell_of_row ((wb.alloc (.cells #[.int .i64 p.kind, .int .i64 p.level, .slice iA3 p.items.length ic3, .slice dA3 p.data.length dc3, .int .i64 p.next] 26)).alloc (.cells #[.int .i64 q.kind, .int .i64 q.level, .slice iA4 q.items.length ic4, .slice dA4 q.data.length dc4, .int .i64 q.next] 26)) w.heap.size 3 _ _ _ HT.out
    have ct4 := cell_of_row ((wb.alloc (.cells #[.int .i64 p.kind, .int .i64 p.level, .slice iA3 p.items.length ic3, .slice dA3 p.data.length dc3, .int .i64 p.next] 26)).alloc (.cells #[.int .i64 q.kind, .int .i64 q.level, .slice iA4 q.items.length ic4, .slice dA4 q.data.length dc4, .int .i64 q.next] 26)) w.heap.size 4 _ _ _ HT.out
    have ct5 := cell_of_row ((wb.alloc (.cells #[.int .i64 p.kind, .int .i64 p.level, .slice iA3 p.items.length ic3, .slice dA3 p.data.length dc3, .int .i64 p.next] 26)).alloc (.cells #[.int .i64 q.kind, .int .i64 q.level, .slice iA4 q.items.length ic4, .slice dA4 q.data.length dc4, .int .i64 q.next] 26)) w.heap.size 5 _ _ _ HT.out
    have ct6 := cell_of_row ((wb.alloc (.cells #[.int .i64 p.kind, .int .i64 p.level, .slice iA3 p.items.length ic3, .slice dA3 p.data.length dc3, .int .i64 p.next] 26)).alloc (.cells #[.int .i64 q.kind, .int .i64 q.level, .slice iA4 q.items.length ic4, .slice dA4 q.data.length dc4, .int .i64 q.next] 26)) w.heap.size 6 _ _ _ HT.out
    have ct7 := cell_of_row ((wb.alloc (.cells #[.int .i64 p.kind, .int .i64 p.level, .slice iA3 p.items.length ic3, .slice dA3 p.data.length dc3, .int .i64 p.next] 26)).alloc (.cells #[.int .i64 q.kind, .int .i64 q.level, .slice iA4 q.items.length ic4, .slice dA4 q.data.length dc4, .int .i64 q.next] 26)) w.heap.size 7 _ _ _ HT.out
    have ct8 := cell_of_row ((wb.alloc (.cells #[.int .i64 p.kind, .int .i64 p.level, .slice iA3 p.items.length ic3, .slice dA3 p.data.length dc3, .int .i64 p.next] 26)).alloc (.cells #[.int .i64 q.kind, .int .i64 q.level, .slice iA4 q.items.length ic4, .slice dA4 q.data.length dc4, .int .i64 q.next] 26)) w.heap.size 8 _ _ _ HT.out
    have ct9 := cell_of_row ((wb.alloc (.cells #[.int .i64 p.kind, .int .i64 p.level, .slice iA3 p.items.length ic3, .slice dA3 p.data.length dc3, .int .i64 p.next] 26)).alloc (.cells #[.int .i64 q.kind, .int .i64 q.level, .slice iA4 q.items.length ic4, .slice dA4 q.data.length dc4, .int .i64 q.next] 26)) w.heap.size 9 _ _ _ HT.out
    have ct10 := cell_of_row ((wb.alloc (.cells #[.int .i64 p.kind, .int .i64 p.level, .slice iA3 p.items.length ic3, .slice dA3 p.data.length dc3, .int .i64 p.next] 26)).alloc (.cells #[.int .i64 q.kind, .int .i64 q.level, .slice iA4 q.items.length ic4, .slice dA4 q.data.length dc4, .int .i64 q.next] 26)) w.heap.size 10 _ _ _ HT.out
    have ct11 := cell_of_row ((wb.alloc (.cells #[.int .i64 p.kind, .int .i64 p.level, .slice iA3 p.items.length ic3, .slice dA3 p.data.length dc3, .int .i64 p.next] 26)).alloc (.cells #[.int .i64 q.kind, .int .i64 q.level, .slice iA4 q.items.length ic4, .slice dA4 q.data.length dc4, .int .i64 q.next] 26)) w.heap.size 11 _ _ _ HT.out
    simp only [List.getElem?_toArray, List.getElem?_cons_zero, List.getElem?_cons_succ] at ct0 ct1 ct2 ct3 ct4 ct5 ct6 ct7 ct8 ct9 ct10 ct11
    go_wp2_with fail
    clear ct0 ct1 ct2 ct3 ct4 ct5 ct6 ct7 ct8 ct9 ct10 ct11
    obtain ⟨b9, h9⟩ : ∃ b, wb.heap.size = b := ⟨_, rfl⟩
    rw [h9] at HC HD ⊢
    clear h9
    refine (eqPage_any r1 (hv1.ext hE)).mono ?_
    rintro e wd ⟨rfl, hEd⟩
    rw [eqPg_self]
    replace HT := Lib.hid (hEd.blk HT.out)
    replace HC := Lib.hid (hEd.blk HC.out)
    replace HD := Lib.hid (hEd.blk HD.out)
    replace r1 := r1.ext hEd
    replace r2 := r2.ext hEd
    replace r3 := r3.ext hEd
    replace hE := hE.trans hEd
    clear hEd
    have ct0 := cell_of_row wd w.heap.size 0 _ _ _ HT.out
    have ct1 := cell_of_row wd w.heap.size 1 _ _ _ HT.out
    have ct2 := cell_of_row wd w.heap.size 2 _ _ _ HT.out
    have ct3 := cell_of_row wd w.heap.size 3 _ _ _ HT.out
    have ct4 := cell_of_row wd w.heap.size 4 _ _ _ HT.out
    have ct5 := cell_of_row wd w.heap.size 5 _ _ _ HT.out
    have ct6 := cell_of_row wd w.heap.size 6 _ _ _ HT.out
    have ct7 := cell_of_row wd w.heap.size 7 _ _ _ HT.out
    have ct8 := cell_of_row wd w.heap.size 8 _ _ _ HT.out
    have ct9 := cell_of_row wd w.heap.size 9 _ _ _ HT.out
    have ct10 := cell_of_row wd w.heap.size 10 _ _ _ HT.out
    have ct11 := cell_of_row wd w.heap.size 11 _ _ _ HT.out
    simp only [List.getElem?_toArray, List.getElem?_cons_zero, List.getElem?_cons_succ] at ct0 ct1 ct2 ct3 ct4 ct5 ct6 ct7 ct8 ct9 ct10 ct11
    have cd0 := cell_of_row wd (b9 + 1) 0 _ _ _ HD.out
    have cd1 := cell_of_row wd (b9 + 1) 1 _ _ _ HD.out
    have cd2 := cell_of_row wd (b9 + 1) 2 _ _ _ HD.out
    have cd3 := cell_of_row wd (b9 + 1) 3 _ _ _ HD.out
    have cd4 := cell_of_row wd (b9 + 1) 4 _ _ _ HD.out
    simp only [List.getElem?_toArray, List.getElem?_cons_zero, List.getElem?_cons_succ] at cd0 cd1 cd2 cd3 cd4
    go_wp2_with fail
    clear ct0 ct1 ct2 ct3 ct4 ct5 ct6 ct7 ct8 ct9 ct10 ct11 cd0 cd1 cd2 cd3 cd4
    refine (eqPage_any r2 (hv2.ext hE)).mono ?_
    rintro e we ⟨rfl, hEe⟩
    rw [eqPg_self]
    replace HT := Lib.hid (hEe.blk HT.out)
    replace HC := Lib.hid (hEe.blk HC.out)
    replace HD := Lib.hid (hEe.blk HD.out)
    replace r1 := r1.ext hEe
    replace r2 := r2.ext hEe
    replace r3 := r3.ext hEe
    replace hE := hE.trans hEe
    clear hEe
    have ct0 := cell_of_row we w.heap.size 0 _ _ _ HT.out
    have ct1 := cell_of_row we w.heap.size 1 _ _ _ HT.out
    have ct2 := cell_of_row we w.heap.size 2 _ _ _ HT.out
    have ct3 := cell_of_row we w.heap.size 3 _ _ _ HT.out
    have ct4 := cell_of_row we w.heap.size 4 _ _ _ HT.out
    have ct5 := cell_of_row we w.heap.size 5 _ _ _ HT.out
    have ct6 := cell_of_row we w.heap.size 6 _ _ _ HT.out
    have ct7 := cell_of_row we w.heap.size 7 _ _ _ HT.out
    have ct8 := cell_of_row we w.heap.size 8 _ _ _ HT.out
    have ct9 := cell_of_row we w.heap.size 9 _ _ _ HT.out
    have ct10 := cell_of_row we w.heap.size 10 _ _ _ HT.out
    have ct11 := cell_of_row we w.heap.size 11 _ _ _ HT.out
    simp only [List.getElem?_toArray, List.getElem?_cons_zero, List.getElem?_cons_succ] at ct0 ct1 ct2 ct3 ct4 ct5 ct6 ct7 ct8 ct9 ct10 ct11
    have cc0 := cell_of_row we b9 0 _ _ _ HC.out
    have cc1 := cell_of_row we b9 1 _ _ _ HC.out
    have cc2 := cell_of_row we b9 2 _ _ _ HC.out
    have cc3 := cell_of_row we b9 3 _ _ _ HC.out
    have cc4 := cell_of_row we b9 4 _ _ _ HC.out
    simp only [List.getElem?_toArray, List.getElem?_cons_zero, List.getElem?_cons_succ] at cc0 cc1 cc2 cc3 cc4
    have cd0 := cell_of_row we (b9 + 1) 0 _ _ _ HD.out
    have cd1 := cell_of_row we (b9 + 1) 1 _ _ _ HD.out
    have cd2 := cell_of_row we (b9 + 1) 2 _ _ _ HD.out
    have cd3 := cell_of_row we (b9 + 1) 3 _ _ _ HD.out
    have cd4 := cell_of_row we (b9 + 1) 4 _ _ _ HD.out
    simp only [List.getElem?_toArray, List.getElem?_cons_zero, List.getElem?_cons_succ] at cd0 cd1 cd2 cd3 cd4
    by_cases hk1 : p.kind = 1
    · have ck1 : (p.kind == 1) = true := by simpa using hk1
      clear hk1
      go_wp2_with fail
      clear ct0 ct1 ct2 ct3 ct4 ct5 ct6 ct7 ct8 ct9 ct10 ct11 cc0 cc1 cc2 cc3 cc4 cd0 cd1 cd2 cd3 cd4
      refine (fits_any r1 r2 r3 rfl).mono ?_
      rintro e wf ⟨z, rfl, hz, hEf⟩
      obtain rfl : z = true := hz.2 HU.out.2.2
      have hEE := hE.trans hEf
      clear hE hEf hz
      go_wp2
      go_ret
      exact ⟨rfl, hEE⟩
    · have ck1 : (p.kind == 1) = false := by simpa using hk1
      obtain rfl : u = sep := HU.out.2.1 hk1
      clear hk1
      go_wp2_with fail
      clear ct0 ct1 ct2 ct3 ct4 ct5 ct6 ct7 ct8 ct9 ct10 ct11 cc0 cc1 cc2 cc3 cc4 cd0 cd1 cd2 cd3 cd4
      refine (eqBytes_any r3 (hs.ext hE)).mono ?_
      rintro e wg ⟨rfl, hEg⟩
      rw [eqB_self]
      replace HT := Lib.hid (hEg.blk HT.out)
      replace HC := Lib.hid (hEg.blk HC.out)
      replace HD := Lib.hid (hEg.blk HD.out)
      replace r1 := r1.ext hEg
      replace r2 := r2.ext hEg
      replace r3 := r3.ext hEg
      replace hE := hE.trans hEg
      clear hEg
      have cc0 := cell_of_row wg b9 0 _ _ _ HC.out
      have cc1 := cell_of_row wg b9 1 _ _ _ HC.out
      have cc2 := cell_of_row wg b9 2 _ _ _ HC.out
      have cc3 := cell_of_row wg b9 3 _ _ _ HC.out
      have cc4 := cell_of_row wg b9 4 _ _ _ HC.out
      simp only [List.getElem?_toArray, List.getElem?_cons_zero, List.getElem?_cons_succ] at cc0 cc1 cc2 cc3 cc4
      have cd0 := cell_of_row wg (b9 + 1) 0 _ _ _ HD.out
      have cd1 := cell_of_row wg (b9 + 1) 1 _ _ _ HD.out
      have cd2 := cell_of_row wg (b9 + 1) 2 _ _ _ HD.out
      have cd3 := cell_of_row wg (b9 + 1) 3 _ _ _ HD.out
      have cd4 := cell_of_row wg (b9 + 1) 4 _ _ _ HD.out
      simp only [List.getElem?_toArray, List.getElem?_cons_zero, List.getElem?_cons_succ] at cd0 cd1 cd2 cd3 cd4
      go_wp2_with fail
      clear cc0 cc1 cc2 cc3 cc4 cd0 cd1 cd2 cd3 cd4
      refine (fits_any r1 r2 r3 rfl).mono ?_
      rintro e wf ⟨z, rfl, hz, hEf⟩
      obtain rfl : z = true := hz.2 HU.out.2.2
      have hEE := hE.trans hEf
      clear hE hEf hz
      go_wp2
      go_ret
      exact ⟨rfl, hEE⟩
  · go_wp2_with fail
    refine gives_true.mono ?_
    rintro e w7 ⟨rfl, hE7⟩
    replace hE := hE.trans hE7
    clear ct0 ct1 ct2 ct3 ct4 ct5 ct6 ct7 ct8 ct9 ct10 ct11
    go_wp2
    go_ret
    exact ⟨rfl, hE⟩
  · have HG3 := Lib.hid (show p.kind = 2 → 3 ≤ givesN p q true from fun _ => by show 3 ≤ p.items.length; omega)
    go_wp2_with fail
    clear ct0 ct1 ct2 ct3 ct4 ct5 ct6 ct7 ct8 ct9 ct10 ct11
    refine gives_true.mono ?_
    rintro e w7 ⟨rfl, hE7⟩
    replace HT := Lib.hid (hE7.blk HT.out)
    replace HG7 := Lib.hid (hE7.blk HG7.out)
    replace HG8 := Lib.hid (hE7.blk HG8.out)
    replace hq1 := hq1.ext hE7
    replace hq2 := hq2.ext hE7
    replace hq3 := hq3.ext hE7
    replace hE := hE.trans hE7
    clear hE7
    have ct0 := cell_of_row w7 w.heap.size 0 _ _ _ HT.out
    have ct1 := cell_of_row w7 w.heap.size 1 _ _ _ HT.out
    have ct2 := cell_of_row w7 w.heap.size 2 _ _ _ HT.out
    have ct3 := cell_of_row w7 w.heap.size 3 _ _ _ HT.out
    have ct4 := cell_of_row w7 w.heap.size 4 _ _ _ HT.out
    have ct5 := cell_of_row w7 w.heap.size 5 _ _ _ HT.out
    have ct6 := cell_of_row w7 w.heap.size 6 _ _ _ HT.out
    have ct7 := cell_of_row w7 w.heap.size 7 _ _ _ HT.out
    have ct8 := cell_of_row w7 w.heap.size 8 _ _ _ HT.out
    have ct9 := cell_of_row w7 w.heap.size 9 _ _ _ HT.out
    have ct10 := cell_of_row w7 w.heap.size 10 _ _ _ HT.out
    have ct11 := cell_of_row w7 w.heap.size 11 _ _ _ HT.out
    simp only [List.getElem?_toArray, List.getElem?_cons_zero, List.getElem?_cons_succ] at ct0 ct1 ct2 ct3 ct4 ct5 ct6 ct7 ct8 ct9 ct10 ct11
    obtain ⟨u, HU⟩ : ∃ u, Hid (lendB la lb ls false = some (p, q, u) ∧ (p.kind ≠ 1 → u = sep) ∧ FitP p q u) := by
      obtain ⟨u, h1, h2, h3⟩ := HLT.out.back HG3.out
      exact ⟨u, Lib.hid ⟨h1, h2, h3⟩⟩
    have HF2 := Lib.hid (HLT.out.fit HG3.out)
    have cg70 := cell_of_row w7 g7 0 _ _ _ HG7.out
    have cg71 := cell_of_row w7 g7 1 _ _ _ HG7.out
    have cg72 := cell_of_row w7 g7 2 _ _ _ HG7.out
    have cg73 := cell_of_row w7 g7 3 _ _ _ HG7.out
    have cg74 := cell_of_row w7 g7 4 _ _ _ HG7.out
    simp only [List.getElem?_toArray, List.getElem?_cons_zero, List.getElem?_cons_succ] at cg70 cg71 cg72 cg73 cg74
    have cg80 := cell_of_row w7 g8 0 _ _ _ HG8.out
    have cg81 := cell_of_row w7 g8 1 _ _ _ HG8.out
    have cg82 := cell_of_row w7 g8 2 _ _ _ HG8.out
    have cg83 := cell_of_row w7 g8 3 _ _ _ HG8.out
    have cg84 := cell_of_row w7 g8 4 _ _ _ HG8.out
    simp only [List.getElem?_toArray, List.getElem?_cons_zero, List.getElem?_cons_succ] at cg80 cg81 cg82 cg83 cg84
    go_wp2_with fail
    clear ct0 ct1 ct2 ct3 ct4 ct5 ct6 ct7 ct8 ct9 ct10 ct11 cg70 cg71 cg72 cg73 cg74 cg80 cg81 cg82 cg83 cg84
    refine (fits_any hq1 hq2 hq3 rfl).mono ?_
    rintro e wa ⟨z, rfl, hz, hEa⟩
    obtain rfl : z = true := hz.2 HF2.out
    clear hz
    replace HT := Lib.hid (hEa.blk HT.out)
    replace HG7 := Lib.hid (hEa.blk HG7.out)
    replace HG8 := Lib.hid (hEa.blk HG8.out)
    replace hq1 := hq1.ext hEa
    replace hq2 := hq2.ext hEa
    replace hq3 := hq3.ext hEa
    replace hE := hE.trans hEa
    clear hEa
    have ct0 := cell_of_row wa w.heap.size 0 _ _ _ HT.out
    have ct1 := cell_of_row wa w.heap.size 1 _ _ _ HT.out
    have ct2 := cell_of_row wa w.heap.size 2 _ _ _ HT.out
    have ct3 := cell_of_row wa w.heap.size 3 _ _ _ HT.out
    have ct4 := cell_of_row wa w.heap.size 4 _ _ _ HT.out
    have ct5 := cell_of_row wa w.heap.size 5 _ _ _ HT.out
    have ct6 := cell_of_row wa w.heap.size 6 _ _ _ HT.out
    have ct7 := cell_of_row wa w.heap.size 7 _ _ _ HT.out
    have ct8 := cell_of_row wa w.heap.size 8 _ _ _ HT.out
    have ct9 := cell_of_row wa w.heap.size 9 _ _ _ HT.out
    have ct10 := cell_of_row wa w.heap.size 10 _ _ _ HT.out
    have ct11 := cell_of_row wa w.heap.size 11 _ _ _ HT.out
    simp only [List.getElem?_toArray, List.getElem?_cons_zero, List.getElem?_cons_succ] at ct0 ct1 ct2 ct3 ct4 ct5 ct6 ct7 ct8 ct9 ct10 ct11
    have cg70 := cell_of_row wa g7 0 _ _ _ HG7.out
    have cg71 := cell_of_row wa g7 1 _ _ _ HG7.out
    have cg72 := cell_of_row wa g7 2 _ _ _ HG7.out
    have cg73 := cell_of_row wa g7 3 _ _ _ HG7.out
    have cg74 := cell_of_row wa g7 4 _ _ _ HG7.out
    simp only [List.getElem?_toArray, List.getElem?_cons_zero, List.getElem?_cons_succ] at cg70 cg71 cg72 cg73 cg74
    have cg80 := cell_of_row wa g8 0 _ _ _ HG8.out
    have cg81 := cell_of_row wa g8 1 _ _ _ HG8.out
    have cg82 := cell_of_row wa g8 2 _ _ _ HG8.out
    have cg83 := cell_of_row wa g8 3 _ _ _ HG8.out
    have cg84 := cell_of_row wa g8 4 _ _ _ HG8.out
    simp only [List.getElem?_toArray, List.getElem?_cons_zero, List.getElem?_cons_succ] at cg80 cg81 cg82 cg83 cg84
    go_wp2_with fail
    clear ct0 ct1 ct2 ct3 ct4 ct5 ct6 ct7 ct8 ct9 ct10 ct11 cg70 cg71 cg72 cg73 cg74 cg80 cg81 cg82 cg83 cg84
    refine (nlend_any hq1 hq2 hq3 rfl (fun _ => by have := fit_min HF2.out; omega)).mono ?_
    rintro e wb ⟨v1, v2, A9, c9, rfl, o1, o2, os, hEb⟩
    rw [show part1 (lendB la lb ls false) = p by rw [HU.out.1]; rfl] at o1
    rw [show part2 (lendB la lb ls false) = q by rw [HU.out.1]; rfl] at o2
    rw [show part3 (lendB la lb ls false) = u by rw [HU.out.1]; rfl] at os ⊢
    rw [show (lendB la lb ls false).isSome = true by rw [HU.out.1]; rfl]
    have r1 := o1.pgv hsm1
    have r2 := o2.pgv hsm2
    have r3 := os.sl (by have := HU.out.2.2.len; omega)
    clear o1 o2 os hq1 hq2 hq3
    obtain ⟨iA3, ic3, dA3, dc3, rfl, _, _⟩ := r1.ex
    obtain ⟨iA4, ic4, dA4, dc4, rfl, _, _⟩ := r2.ex
    clear HG7 HG8
    replace HT := Lib.hid (hEb.blk HT.out)
    replace hE := hE.trans hEb
    clear hEb
    have hx := (ext_alloc wb (.cells #[.int .i64 p.kind, .int .i64 p.level, .slice iA3 p.items.length ic3, .slice dA3 p.data.length dc3, .int .i64 p.next] 26)).trans (ext_alloc _ (.cells #[.int .i64 q.kind, .int .i64 q.level, .slice iA4 q.items.length ic4, .slice dA4 q.data.length dc4, .int .i64 q.next] 26))
    have HC := Lib.hid (heap_alloc2_old wb (.cells #[.int .i64 p.kind, .int .i64 p.level, .slice iA3 p.items.length ic3, .slice dA3 p.data.length dc3, .int .i64 p.next] 26) (.cells #[.int .i64 q.kind, .int .i64 q.level, .slice iA4 q.items.length ic4, .slice dA4 q.data.length dc4, .int .i64 q.next] 26))
    have HD := Lib.hid (heap_alloc2_new wb (.cells #[.int .i64 p.kind, .int .i64 p.level, .slice iA3 p.items.length ic3, .slice dA3 p.data.length dc3, .int .i64 p.next] 26) (.cells #[.int .i64 q.kind, .int .i64 q.level, .slice iA4 q.items.length ic4, .slice dA4 q.data.length dc4, .int .i64 q.next] 26))
    replace HT := Lib.hid (hx.blk HT.out)
    replace r1 := r1.ext hx
    replace r2 := r2.ext hx
    replace r3 := r3.ext hx
    replace hE := hE.trans hx
    clear hx
    have ct0 := cell_of_row ((wb.alloc (.cells #[.int .i64 p.kind, .int .i64 p.level, .slice iA3 p.items.length ic3, .slice dA3 p.data.length dc3, .int .i64 p.next] 26)).alloc (.cells #[.int .i64 q.kind, .int .i64 q.level, .slice iA4 q.items.length ic4, .slice dA4 q.data.length dc4, .int .i64 q.next] 26)) w.heap.size 0 _ _ _ HT.out
    have ct1 := cell_of_row ((wb.alloc (.cells #[.int .i64 p.kind, .int .i64 p.level, .slice iA3 p.items.length ic3, .slice dA3 p.data.length dc3, .int .i64 p.next] 26)).alloc (.cells #[.int .i64 q.kind, .int .i64 q.level, .slice iA4 q.items.length ic4, .slice dA4 q.data.length dc4, .int .i64 q.next] 26)) w.heap.size 1 _ _ _ HT.out
    have ct2 := cell_of_row ((wb.alloc (.cells #[.int .i64 p.kind, .int .i64 p.level, .slice iA3 p.items.length ic3, .slice dA3 p.data.length dc3, .int .i64 p.next] 26)).alloc (.cells #[.int .i64 q.kind, .int .i64 q.level, .slice iA4 q.items.length ic4, .slice dA4 q.data.length dc4, .int .i64 q.next] 26)) w.heap.size 2 _ _ _ HT.out
    have ct3 := cell_of_row ((wb.alloc (.cells #[.int .i64 p.kind, .int .i64 p.level, .slice iA3 p.items.length ic3, .slice dA3 p.data.length dc3, .int .i64 p.next] 26)).alloc (.cells #[.int .i64 q.kind, .int .i64 q.level, .slice iA4 q.items.length ic4, .slice dA4 q.data.length dc4, .int .i64 q.next] 26)) w.heap.size 3 _ _ _ HT.out
    have ct4 := cell_of_row ((wb.alloc (.cells #[.int .i64 p.kind, .int .i64 p.level, .slice iA3 p.items.length ic3, .slice dA3 p.data.length dc3, .int .i64 p.next] 26)).alloc (.cells #[.int .i64 q.kind, .int .i64 q.level, .slice iA4 q.items.length ic4, .slice dA4 q.data.length dc4, .int .i64 q.next] 26)) w.heap.size 4 _ _ _ HT.out
    have ct5 := cell_of_row ((wb.alloc (.cells #[.int .i64 p.kind, .int .i64 p.level, .slice iA3 p.items.length ic3, .slice dA3 p.data.length dc3, .int .i64 p.next] 26)).alloc (.cells #[.int .i64 q.kind, .int .i64 q.level, .slice iA4 q.items.length ic4, .slice dA4 q.data.length dc4, .int .i64 q.next] 26)) w.heap.size 5 _ _ _ HT.out
    have ct6 := cell_of_row ((wb.alloc (.cells #[.int .i64 p.kind, .int .i64 p.level, .slice iA3 p.items.length ic3, .slice dA3 p.data.length dc3, .int .i64 p.next] 26)).alloc (.cells #[.int .i64 q.kind, .int .i64 q.level, .slice iA4 q.items.length ic4, .slice dA4 q.data.length dc4, .int .i64 q.next] 26)) w.heap.size 6 _ _ _ HT.out
    have ct7 := cell_of_row ((wb.alloc (.cells #[.int .i64 p.kind, .int .i64 p.level, .slice iA3 p.items.length ic3, .slice dA3 p.data.length dc3, .int .i64 p.next] 26)).alloc (.cells #[.int .i64 q.kind, .int .i64 q.level, .slice iA4 q.items.length ic4, .slice dA4 q.data.length dc4, .int .i64 q.next] 26)) w.heap.size 7 _ _ _ HT.out
    have ct8 := cell_of_row ((wb.alloc (.cells #[.int .i64 p.kind, .int .i64 p.level, .slice iA3 p.items.length ic3, .slice dA3 p.data.length dc3, .int .i64 p.next] 26)).alloc (.cells #[.int .i64 q.kind, .int .i64 q.level, .slice iA4 q.items.length ic4, .slice dA4 q.data.length dc4, .int .i64 q.next] 26)) w.heap.size 8 _ _ _ HT.out
    have ct9 := cell_of_row ((wb.alloc (.cells #[.int .i64 p.kind, .int .i64 p.level, .slice iA3 p.items.length ic3, .slice dA3 p.data.length dc3, .int .i64 p.next] 26)).alloc (.cells #[.int .i64 q.kind, .int .i64 q.level, .slice iA4 q.items.length ic4, .slice dA4 q.data.length dc4, .int .i64 q.next] 26)) w.heap.size 9 _ _ _ HT.out
    have ct10 := cell_of_row ((wb.alloc (.cells #[.int .i64 p.kind, .int .i64 p.level, .slice iA3 p.items.length ic3, .slice dA3 p.data.length dc3, .int .i64 p.next] 26)).alloc (.cells #[.int .i64 q.kind, .int .i64 q.level, .slice iA4 q.items.length ic4, .slice dA4 q.data.length dc4, .int .i64 q.next] 26)) w.heap.size 10 _ _ _ HT.out
    have ct11 := cell_of_row ((wb.alloc (.cells #[.int .i64 p.kind, .int .i64 p.level, .slice iA3 p.items.length ic3, .slice dA3 p.data.length dc3, .int .i64 p.next] 26)).alloc (.cells #[.int .i64 q.kind, .int .i64 q.level, .slice iA4 q.items.length ic4, .slice dA4 q.data.length dc4, .int .i64 q.next] 26)) w.heap.size 11 _ _ _ HT.out
    simp only [List.getElem?_toArray, List.getElem?_cons_zero, List.getElem?_cons_succ] at ct0 ct1 ct2 ct3 ct4 ct5 ct6 ct7 ct8 ct9 ct10 ct11
    go_wp2_with fail
    clear ct0 ct1 ct2 ct3 ct4 ct5 ct6 ct7 ct8 ct9 ct10 ct11
    obtain ⟨b9, h9⟩ : ∃ b, wb.heap.size = b := ⟨_, rfl⟩
    rw [h9] at HC HD ⊢
    clear h9
    refine (eqPage_any r1 (hv1.ext hE)).mono ?_
    rintro e wd ⟨rfl, hEd⟩
    rw [eqPg_self]
    replace HT := Lib.hid (hEd.blk HT.out)
    replace HC := Lib.hid (hEd.blk HC.out)
    replace HD := Lib.hid (hEd.blk HD.out)
    replace r1 := r1.ext hEd
    replace r2 := r2.ext hEd
    replace r3 := r3.ext hEd
    replace hE := hE.trans hEd
    clear hEd
    have ct0 := cell_of_row wd w.heap.size 0 _ _ _ HT.out
    have ct1 := cell_of_row wd w.heap.size 1 _ _ _ HT.out
    have ct2 := cell_of_row wd w.heap.size 2 _ _ _ HT.out
    have ct3 := cell_of_row wd w.heap.size 3 _ _ _ HT.out
    have ct4 := cell_of_row wd w.heap.size 4 _ _ _ HT.out
    have ct5 := cell_of_row wd w.heap.size 5 _ _ _ HT.out
    have ct6 := cell_of_row wd w.heap.size 6 _ _ _ HT.out
    have ct7 := cell_of_row wd w.heap.size 7 _ _ _ HT.out
    have ct8 := cell_of_row wd w.heap.size 8 _ _ _ HT.out
    have ct9 := cell_of_row wd w.heap.size 9 _ _ _ HT.out
    have ct10 := cell_of_row wd w.heap.size 10 _ _ _ HT.out
    have ct11 := cell_of_row wd w.heap.size 11 _ _ _ HT.out
    simp only [List.getElem?_toArray, List.getElem?_cons_zero, List.getElem?_cons_succ] at ct0 ct1 ct2 ct3 ct4 ct5 ct6 ct7 ct8 ct9 ct10 ct11
    have cd0 := cell_of_row wd (b9 + 1) 0 _ _ _ HD.out
    have cd1 := cell_of_row wd (b9 + 1) 1 _ _ _ HD.out
    have cd2 := cell_of_row wd (b9 + 1) 2 _ _ _ HD.out
    have cd3 := cell_of_row wd (b9 + 1) 3 _ _ _ HD.out
    have cd4 := cell_of_row wd (b9 + 1) 4 _ _ _ HD.out
    simp only [List.getElem?_toArray, List.getElem?_cons_zero, List.getElem?_cons_succ] at cd0 cd1 cd2 cd3 cd4
    go_wp2_with fail
    clear ct0 ct1 ct2 ct3 ct4 ct5 ct6 ct7 ct8 ct9 ct10 ct11 cd0 cd1 cd2 cd3 cd4
    refine (eqPage_any r2 (hv2.ext hE)).mono ?_
    rintro e we ⟨rfl, hEe⟩
    rw [eqPg_self]
    replace HT := Lib.hid (hEe.blk HT.out)
    replace HC := Lib.hid (hEe.blk HC.out)
    replace HD := Lib.hid (hEe.blk HD.out)
    replace r1 := r1.ext hEe
    replace r2 := r2.ext hEe
    replace r3 := r3.ext hEe
    replace hE := hE.trans hEe
    clear hEe
    have ct0 := cell_of_row we w.heap.size 0 _ _ _ HT.out
    have ct1 := cell_of_row we w.heap.size 1 _ _ _ HT.out
    have ct2 := cell_of_row we w.heap.size 2 _ _ _ HT.out
    have ct3 := cell_of_row we w.heap.size 3 _ _ _ HT.out
    have ct4 := cell_of_row we w.heap.size 4 _ _ _ HT.out
    have ct5 := cell_of_row we w.heap.size 5 _ _ _ HT.out
    have ct6 := cell_of_row we w.heap.size 6 _ _ _ HT.out
    have ct7 := cell_of_row we w.heap.size 7 _ _ _ HT.out
    have ct8 := cell_of_row we w.heap.size 8 _ _ _ HT.out
    have ct9 := cell_of_row we w.heap.size 9 _ _ _ HT.out
    have ct10 := cell_of_row we w.heap.size 10 _ _ _ HT.out
    have ct11 := cell_of_row we w.heap.size 11 _ _ _ HT.out
    simp only [List.getElem?_toArray, List.getElem?_cons_zero, List.getElem?_cons_succ] at ct0 ct1 ct2 ct3 ct4 ct5 ct6 ct7 ct8 ct9 ct10 ct11
    have cc0 := cell_of_row we b9 0 _ _ _ HC.out
    have cc1 := cell_of_row we b9 1 _ _ _ HC.out
    have cc2 := cell_of_row we b9 2 _ _ _ HC.out
    have cc3 := cell_of_row we b9 3 _ _ _ HC.out
    have cc4 := cell_of_row we b9 4 _ _ _ HC.out
    simp only [List.getElem?_toArray, List.getElem?_cons_zero, List.getElem?_cons_succ] at cc0 cc1 cc2 cc3 cc4
    have cd0 := cell_of_row we (b9 + 1) 0 _ _ _ HD.out
    have cd1 := cell_of_row we (b9 + 1) 1 _ _ _ HD.out
    have cd2 := cell_of_row we (b9 + 1) 2 _ _ _ HD.out
    have cd3 := cell_of_row we (b9 + 1) 3 _ _ _ HD.out
    have cd4 := cell_of_row we (b9 + 1) 4 _ _ _ HD.out
    simp only [List.getElem?_toArray, List.getElem?_cons_zero, List.getElem?_cons_succ] at cd0 cd1 cd2 cd3 cd4
    by_cases hk1 : p.kind = 1
    · have ck1 : (p.kind == 1) = true := by simpa using hk1
      clear hk1
      go_wp2_with fail
      clear ct0 ct1 ct2 ct3 ct4 ct5 ct6 ct7 ct8 ct9 ct10 ct11 cc0 cc1 cc2 cc3 cc4 cd0 cd1 cd2 cd3 cd4
      refine (fits_any r1 r2 r3 rfl).mono ?_
      rintro e wf ⟨z, rfl, hz, hEf⟩
      obtain rfl : z = true := hz.2 HU.out.2.2
      have hEE := hE.trans hEf
      clear hE hEf hz
      go_wp2
      go_ret
      exact ⟨rfl, hEE⟩
    · have ck1 : (p.kind == 1) = false := by simpa using hk1
      obtain rfl : u = sep := HU.out.2.1 hk1
      clear hk1
      go_wp2_with fail
      clear ct0 ct1 ct2 ct3 ct4 ct5 ct6 ct7 ct8 ct9 ct10 ct11 cc0 cc1 cc2 cc3 cc4 cd0 cd1 cd2 cd3 cd4
      refine (eqBytes_any r3 (hs.ext hE)).mono ?_
      rintro e wg ⟨rfl, hEg⟩
      rw [eqB_self]
      replace HT := Lib.hid (hEg.blk HT.out)
      replace HC := Lib.hid (hEg.blk HC.out)
      replace HD := Lib.hid (hEg.blk HD.out)
      replace r1 := r1.ext hEg
      replace r2 := r2.ext hEg
      replace r3 := r3.ext hEg
      replace hE := hE.trans hEg
      clear hEg
      have cc0 := cell_of_row wg b9 0 _ _ _ HC.out
      have cc1 := cell_of_row wg b9 1 _ _ _ HC.out
      have cc2 := cell_of_row wg b9 2 _ _ _ HC.out
      have cc3 := cell_of_row wg b9 3 _ _ _ HC.out
      have cc4 := cell_of_row wg b9 4 _ _ _ HC.out
      simp only [List.getElem?_toArray, List.getElem?_cons_zero, List.getElem?_cons_succ] at cc0 cc1 cc2 cc3 cc4
      have cd0 := cell_of_row wg (b9 + 1) 0 _ _ _ HD.out
      have cd1 := cell_of_row wg (b9 + 1) 1 _ _ _ HD.out
      have cd2 := cell_of_row wg (b9 + 1) 2 _ _ _ HD.out
      have cd3 := cell_of_row wg (b9 + 1) 3 _ _ _ HD.out
      have cd4 := cell_of_row wg (b9 + 1) 4 _ _ _ HD.out
      simp only [List.getElem?_toArray, List.getElem?_cons_zero, List.getElem?_cons_succ] at cd0 cd1 cd2 cd3 cd4
      go_wp2_with fail
      clear cc0 cc1 cc2 cc3 cc4 cd0 cd1 cd2 cd3 cd4
      refine (fits_any r1 r2 r3 rfl).mono ?_
      rintro e wf ⟨z, rfl, hz, hEf⟩
      obtain rfl : z = true := hz.2 HU.out.2.2
      have hEE := hE.trans hEf
      clear hE hEf hz
      go_wp2
      go_ret
      exact ⟨rfl, hEE⟩
set_option maxRecDepth 100000 in
set_option maxHeartbeats 8000000 in
theorem returns_false {v : Value} {p q : Pg} {sep : List UInt8} {w : World} (hv : TwoV w v p q sep false) :
    Calls Try.prog 9 #[v] w fun e w' => e = .returned (.bool true) ∧ Ext w w' := by
  obtain ⟨iA, ic, dA, dc, jA, jc, eA, ec, sA, sc, rfl, hi, hd, hj, hc, hs, hpl, hql⟩ := hv.ex
  have hv1 : PgV w (.agg #[.int .i64 p.kind, .int .i64 p.level, .slice iA p.items.length ic, .slice dA p.data.length dc, .int .i64 p.next]) p := ⟨iA, ic, dA, dc, rfl, hi, hd⟩
  have hv2 : PgV w (.agg #[.int .i64 q.kind, .int .i64 q.level, .slice jA q.items.length jc, .slice eA q.data.length ec, .int .i64 q.next]) q := ⟨jA, jc, eA, ec, rfl, hj, hc⟩
  have hsm1 := hv1.small
  have hsm2 := hv2.small
  have hsl := hs.len
  clear hv hi hd hj hc
  have HT := Lib.hid (heap_alloc_new w (.cells #[.int .i64 p.kind, .int .i64 p.level, .slice iA p.items.length ic, .slice dA p.data.length dc, .int .i64 p.next, .int .i64 q.kind, .int .i64 q.level, .slice jA q.items.length jc, .slice eA q.data.length ec, .int .i64 q.next, .slice sA sep.length sc, .bool false] 40))
  have hE := ext_alloc w (.cells #[.int .i64 p.kind, .int .i64 p.level, .slice iA p.items.length ic, .slice dA p.data.length dc, .int .i64 p.next, .int .i64 q.kind, .int .i64 q.level, .slice jA q.items.length jc, .slice eA q.data.length ec, .int .i64 q.next, .slice sA sep.length sc, .bool false] 40)
  have hlm0 : lendOk p q false = true → p.items.length + q.items.length ≤ 2199023255552 := lend_bound hpl hql
  have hlm : Small3 (lendB p q sep false) := by
    by_cases h : lendOk p q false = true
    · exact lend_small hsm1 hsm2 hsl (hlm0 h)
    · rw [show lendB p q sep false = none by unfold lendB; rw [if_neg h]]
      exact Small3.none_
  obtain ⟨lo, hlo⟩ : ∃ o, lendB p q sep false = o := ⟨_, rfl⟩
  rw [hlo] at hlm
  have HLO := Lib.hid hlo
  obtain ⟨la, hla⟩ : ∃ x, part1 lo = x := ⟨_, rfl⟩
  obtain ⟨lb, hlb⟩ : ∃ x, part2 lo = x := ⟨_, rfl⟩
  obtain ⟨ls, hls⟩ : ∃ x, part3 lo = x := ⟨_, rfl⟩
  obtain ⟨lz, hlz⟩ : ∃ x, lo.isSome = x := ⟨_, rfl⟩
  have HLA := Lib.hid (show part1 (lendB p q sep false) = la by rw [hlo]; exact hla)
  have HLB := Lib.hid (show part2 (lendB p q sep false) = lb by rw [hlo]; exact hlb)
  have HLS := Lib.hid (show part3 (lendB p q sep false) = ls by rw [hlo]; exact hls)
  have HLZ := Lib.hid (show (lendB p q sep false).isSome = lz by rw [hlo]; exact hlz)
  have HLS3 := Lib.hid hlm
  have hlm : SmallL la lb ls := ⟨hla ▸ hlm.a, hlb ▸ hlm.b, hls ▸ hlm.c⟩
  clear hlo hla hlb hls hlz hlm0 HLS3
  go_enter Try.func9, Try.ntmps9
  go_wp2_with fail
  refine works_any.mono ?_
  rintro e w1 ⟨rfl, hE1⟩
  replace HT := Lib.hid (hE1.blk HT.out)
  replace hE := hE.trans hE1
  clear hE1
  have ct0 := cell_of_row w1 w.heap.size 0 _ _ _ HT.out
  have ct1 := cell_of_row w1 w.heap.size 1 _ _ _ HT.out
  have ct2 := cell_of_row w1 w.heap.size 2 _ _ _ HT.out
  have ct3 := cell_of_row w1 w.heap.size 3 _ _ _ HT.out
  have ct4 := cell_of_row w1 w.heap.size 4 _ _ _ HT.out
  have ct5 := cell_of_row w1 w.heap.size 5 _ _ _ HT.out
  have ct6 := cell_of_row w1 w.heap.size 6 _ _ _ HT.out
  have ct7 := cell_of_row w1 w.heap.size 7 _ _ _ HT.out
  have ct8 := cell_of_row w1 w.heap.size 8 _ _ _ HT.out
  have ct9 := cell_of_row w1 w.heap.size 9 _ _ _ HT.out
  have ct10 := cell_of_row w1 w.heap.size 10 _ _ _ HT.out
  have ct11 := cell_of_row w1 w.heap.size 11 _ _ _ HT.out
  simp only [List.getElem?_toArray, List.getElem?_cons_zero, List.getElem?_cons_succ] at ct0 ct1 ct2 ct3 ct4 ct5 ct6 ct7 ct8 ct9 ct10 ct11
  go_wp2_with fail
  clear ct0 ct1 ct2 ct3 ct4 ct5 ct6 ct7 ct8 ct9 ct10 ct11
  refine (fits_any (hv1.ext hE) (hv2.ext hE) (hs.ext hE) rfl).mono ?_
  rintro e w2 ⟨fz, rfl, hfz, hE2⟩
  have HFZ := Lib.hid hfz
  replace HT := Lib.hid (hE2.blk HT.out)
  replace hE := hE.trans hE2
  clear hE2 hfz
  cases fz
  · go_wp2
    go_ret
    exact ⟨rfl, hE⟩
  have HF := Lib.hid (HFZ.out.1 rfl)
  clear HFZ
  go_wp2_with fail
  have hw0 : w.heap.size < w2.heap.size := (Array.getElem?_eq_some_iff.1 HT.out).1
  refine wp_region_rg (Exk (PgBlk w2.heap.size)) (rel_exk _) (fun _ => True) [0, 1, 2, 3, 4, 5, 6, 7, 8, 9, 10, 11, 12, 13, 14, 15, 16, 17, 18, 19, 20, 21, 22] (fun i => match i with
    | 2 => some fun V v w' => PgO w2.heap.size w' v p
    | 5 => some fun V v w' => PgO w2.heap.size w' v q
    | 8 => some fun V v w' => SOwn 5 w2.heap.size sep v w'
    | 11 => some fun V => LendIn w2.heap.size la lb ls lz
    | 17 => some fun V => PgCell w2.heap.size
    | 18 => some fun V => PgCell w2.heap.size
    | _ => none) (fun i => match i with
    | 19 => some fun V _ => StoredAt w2.heap.size (comp (V 11) 0) (V 17)
    | 20 => some fun V _ => Stored2 w2.heap.size (comp (V 11) 0) (V 17) (comp (V 11) 1) (V 18)
    | _ => none) (fun _ => false) (by kernel_rfl) (by kernel_rfl) (fun _ _ h he => trivial) trivial (fun W N hW hF0 hN => ?_)
  have hEW : Exk (PgBlk w2.heap.size) w2 W := Exk.of_ext hW
  have hXb : ∀ w', Exk (PgBlk w2.heap.size) W w' → Ext w2 w' := fun w' h => (Exk.trans hEW h).x.to_ext (Below.refl _ _) (fun k _ hk => hk.1)
  have hX : ∀ w', Exk (PgBlk w2.heap.size) W w' → Ext w w' := fun w' h => hE.trans (hXb w' h)
  have t0 : ∀ w', Exk (PgBlk w2.heap.size) w2 w' → w'.cell? ⟨w.heap.size, 0, none⟩ = some (.int .i64 p.kind) := fun w' h => cell_of_row _ _ _ _ _ _ (h.x.blk HT.out (PgBlk.notLt (by omega)))
  have t1 : ∀ w', Exk (PgBlk w2.heap.size) w2 w' → w'.cell? ⟨w.heap.size, 1, none⟩ = some (.int .i64 p.level) := fun w' h => cell_of_row _ _ _ _ _ _ (h.x.blk HT.out (PgBlk.notLt (by omega)))
  have t2 : ∀ w', Exk (PgBlk w2.heap.size) w2 w' → w'.cell? ⟨w.heap.size, 2, none⟩ = some (.slice iA p.items.length ic) := fun w' h => cell_of_row _ _ _ _ _ _ (h.x.blk HT.out (PgBlk.notLt (by omega)))
  have t3 : ∀ w', Exk (PgBlk w2.heap.size) w2 w' → w'.cell? ⟨w.heap.size, 3, none⟩ = some (.slice dA p.data.length dc) := fun w' h => cell_of_row _ _ _ _ _ _ (h.x.blk HT.out (PgBlk.notLt (by omega)))
  have t4 : ∀ w', Exk (PgBlk w2.heap.size) w2 w' → w'.cell? ⟨w.heap.size, 4, none⟩ = some (.int .i64 p.next) := fun w' h => cell_of_row _ _ _ _ _ _ (h.x.blk HT.out (PgBlk.notLt (by omega)))
  have t5 : ∀ w', Exk (PgBlk w2.heap.size) w2 w' → w'.cell? ⟨w.heap.size, 5, none⟩ = some (.int .i64 q.kind) := fun w' h => cell_of_row _ _ _ _ _ _ (h.x.blk HT.out (PgBlk.notLt (by omega)))
  have t6 : ∀ w', Exk (PgBlk w2.heap.size) w2 w' → w'.cell? ⟨w.heap.size, 6, none⟩ = some (.int .i64 q.level) := fun w' h => cell_of_row _ _ _ _ _ _ (h.x.blk HT.out (PgBlk.notLt (by omega)))
  have t7 : ∀ w', Exk (PgBlk w2.heap.size) w2 w' → w'.cell? ⟨w.heap.size, 7, none⟩ = some (.slice jA q.items.length jc) := fun w' h => cell_of_row _ _ _ _ _ _ (h.x.blk HT.out (PgBlk.notLt (by omega)))
  have t8 : ∀ w', Exk (PgBlk w2.heap.size) w2 w' → w'.cell? ⟨w.heap.size, 8, none⟩ = some (.slice eA q.data.length ec) := fun w' h => cell_of_row _ _ _ _ _ _ (h.x.blk HT.out (PgBlk.notLt (by omega)))
  have t9 : ∀ w', Exk (PgBlk w2.heap.size) w2 w' → w'.cell? ⟨w.heap.size, 9, none⟩ = some (.int .i64 q.next) := fun w' h => cell_of_row _ _ _ _ _ _ (h.x.blk HT.out (PgBlk.notLt (by omega)))
  have t10 : ∀ w', Exk (PgBlk w2.heap.size) w2 w' → w'.cell? ⟨w.heap.size, 10, none⟩ = some (.slice sA sep.length sc) := fun w' h => cell_of_row _ _ _ _ _ _ (h.x.blk HT.out (PgBlk.notLt (by omega)))
  have t11 : ∀ w', Exk (PgBlk w2.heap.size) w2 w' → w'.cell? ⟨w.heap.size, 11, none⟩ = some (.bool false) := fun w' h => cell_of_row _ _ _ _ _ _ (h.x.blk HT.out (PgBlk.notLt (by omega)))
  repeat (first | (apply wpR_one; (case ho => (simp only [List.getElem?_toArray, List.getElem?_cons_succ, List.getElem?_cons_zero]; try exact rfl)); (case hw => rfl); (case hl => rfl); (case hsp => rfl); (case he => rfl); (case hv => (intro w' hw'; (try (have hw2 := Ext.trans hEW hw')); (try (have hw3 := Exc.trans hEW hw')); (try (have hw4 := Exk.trans hEW hw')); (try (have hw5 := Mrk.trans hEW hw')); go_simp; exact rfl)); (case hw0 => (first | exact Below.refl _ _ | exact Exc.of_ext (Below.refl _ _) | exact Exk.of_ext (Below.refl _ _) | exact Mrk.of_ext (Below.refl _ _))); simp only [Act.put, List.setIfInBounds_toArray, List.set_cons_succ, List.set_cons_zero]) | (apply wpR_early; (case ho => (simp only [List.getElem?_toArray, List.getElem?_cons_succ, List.getElem?_cons_zero]; try exact rfl)); (case hw => rfl); (case hl => rfl); (case hsp => rfl); (case he => rfl); (case hv => (intro w' hw'; (try have hw2 := Ext.trans hEW hw'); go_simp; exact rfl)); simp only [Act.put, List.setIfInBounds_toArray, List.set_cons_succ, List.set_cons_zero]) | (apply wpR_pass; (case ho => (simp only [List.getElem?_toArray, List.getElem?_cons_succ, List.getElem?_cons_zero]; try exact rfl)); (case hw => rfl); (case hl => rfl); simp only [Act.put, List.setIfInBounds_toArray, List.set_cons_succ, List.set_cons_zero]))
  refine wpR_new (by ((simp only [List.getElem?_toArray, List.getElem?_cons_succ, List.getElem?_cons_zero]; try exact rfl))) _ rfl rfl rfl (fun V v => PgO.lastsK _ _) (fun V V' h => rfl) (fun w' hw' hK => ?_) (fun v hv => ?_)
  · have HX := Lib.hid (hX w' hw')
    clear hK
    unfold opAt; go_simp; refine upAt_enter ?_
    refine (copyPage_any (hv1.ext HX.out)).mono ?_
    rintro e w2 ⟨v', rfl, hO, hE2⟩
    exact ⟨_, rfl, hE2, hO.mono (hEW.trans hw').x.size⟩
  obtain ⟨xA0, xc0, xD0, xd0, rfl⟩ : ∃ a b c d, v = .agg #[.int .i64 p.kind, .int .i64 p.level, .slice a p.items.length b, .slice c p.data.length d, .int .i64 p.next] := by
    obtain ⟨_, _, _, hO⟩ := hv
    obtain ⟨a, b, c, d, ps, e, _⟩ := hO.ex
    exact ⟨a, b, c, d, e⟩
  clear hv
  simp only [Act.put, List.setIfInBounds_toArray, List.set_cons_succ, List.set_cons_zero]
  repeat (first | (apply wpR_one; (case ho => (simp only [List.getElem?_toArray, List.getElem?_cons_succ, List.getElem?_cons_zero]; try exact rfl)); (case hw => rfl); (case hl => rfl); (case hsp => rfl); (case he => rfl); (case hv => (intro w' hw'; (try (have hw2 := Ext.trans hEW hw')); (try (have hw3 := Exc.trans hEW hw')); (try (have hw4 := Exk.trans hEW hw')); (try (have hw5 := Mrk.trans hEW hw')); go_simp; exact rfl)); (case hw0 => (first | exact Below.refl _ _ | exact Exc.of_ext (Below.refl _ _) | exact Exk.of_ext (Below.refl _ _) | exact Mrk.of_ext (Below.refl _ _))); simp only [Act.put, List.setIfInBounds_toArray, List.set_cons_succ, List.set_cons_zero]) | (apply wpR_early; (case ho => (simp only [List.getElem?_toArray, List.getElem?_cons_succ, List.getElem?_cons_zero]; try exact rfl)); (case hw => rfl); (case hl => rfl); (case hsp => rfl); (case he => rfl); (case hv => (intro w' hw'; (try have hw2 := Ext.trans hEW hw'); go_simp; exact rfl)); simp only [Act.put, List.setIfInBounds_toArray, List.set_cons_succ, List.set_cons_zero]) | (apply wpR_pass; (case ho => (simp only [List.getElem?_toArray, List.getElem?_cons_succ, List.getElem?_cons_zero]; try exact rfl)); (case hw => rfl); (case hl => rfl); simp only [Act.put, List.setIfInBounds_toArray, List.set_cons_succ, List.set_cons_zero]))
  refine wpR_new (by ((simp only [List.getElem?_toArray, List.getElem?_cons_succ, List.getElem?_cons_zero]; try exact rfl))) _ rfl rfl rfl (fun V v => PgO.lastsK _ _) (fun V V' h => rfl) (fun w' hw' hK => ?_) (fun v hv => ?_)
  · have HX := Lib.hid (hX w' hw')
    clear hK
    unfold opAt; go_simp; refine upAt_enter ?_
    refine (copyPage_any (hv2.ext HX.out)).mono ?_
    rintro e w2 ⟨v', rfl, hO, hE2⟩
    exact ⟨_, rfl, hE2, hO.mono (hEW.trans hw').x.size⟩
  obtain ⟨xA1, xc1, xD1, xd1, rfl⟩ : ∃ a b c d, v = .agg #[.int .i64 q.kind, .int .i64 q.level, .slice a q.items.length b, .slice c q.data.length d, .int .i64 q.next] := by
    obtain ⟨_, _, _, hO⟩ := hv
    obtain ⟨a, b, c, d, ps, e, _⟩ := hO.ex
    exact ⟨a, b, c, d, e⟩
  clear hv
  simp only [Act.put, List.setIfInBounds_toArray, List.set_cons_succ, List.set_cons_zero]
  repeat (first | (apply wpR_one; (case ho => (simp only [List.getElem?_toArray, List.getElem?_cons_succ, List.getElem?_cons_zero]; try exact rfl)); (case hw => rfl); (case hl => rfl); (case hsp => rfl); (case he => rfl); (case hv => (intro w' hw'; (try (have hw2 := Ext.trans hEW hw')); (try (have hw3 := Exc.trans hEW hw')); (try (have hw4 := Exk.trans hEW hw')); (try (have hw5 := Mrk.trans hEW hw')); go_simp; exact rfl)); (case hw0 => (first | exact Below.refl _ _ | exact Exc.of_ext (Below.refl _ _) | exact Exk.of_ext (Below.refl _ _) | exact Mrk.of_ext (Below.refl _ _))); simp only [Act.put, List.setIfInBounds_toArray, List.set_cons_succ, List.set_cons_zero]) | (apply wpR_early; (case ho => (simp only [List.getElem?_toArray, List.getElem?_cons_succ, List.getElem?_cons_zero]; try exact rfl)); (case hw => rfl); (case hl => rfl); (case hsp => rfl); (case he => rfl); (case hv => (intro w' hw'; (try have hw2 := Ext.trans hEW hw'); go_simp; exact rfl)); simp only [Act.put, List.setIfInBounds_toArray, List.set_cons_succ, List.set_cons_zero]) | (apply wpR_pass; (case ho => (simp only [List.getElem?_toArray, List.getElem?_cons_succ, List.getElem?_cons_zero]; try exact rfl)); (case hw => rfl); (case hl => rfl); simp only [Act.put, List.setIfInBounds_toArray, List.set_cons_succ, List.set_cons_zero]))
  refine wpR_new (by ((simp only [List.getElem?_toArray, List.getElem?_cons_succ, List.getElem?_cons_zero]; try exact rfl))) _ rfl rfl rfl (fun V v => SOwn.lastsK _ _) (fun V V' h => rfl) (fun w' hw' hK => ?_) (fun v hv => ?_)
  · have HX := Lib.hid (hX w' hw')
    clear hK
    unfold opAt; go_simp; refine upAt_enter ?_
    refine (copyBytes_any (hs.ext HX.out)).mono ?_
    rintro e w2 ⟨A9, c9, rfl, hO, hE2⟩
    exact ⟨_, rfl, hE2, A9, c9, rfl, hO.mono (hEW.trans hw').x.size⟩
  obtain ⟨xA2, xc2, rfl⟩ : ∃ A c, v = .slice A sep.length c := by
    obtain ⟨_, _, _, A, c, h, _⟩ := hv
    exact ⟨A, c, h⟩
  clear hv
  simp only [Act.put, List.setIfInBounds_toArray, List.set_cons_succ, List.set_cons_zero]
  repeat (first | (apply wpR_one; (case ho => (simp only [List.getElem?_toArray, List.getElem?_cons_succ, List.getElem?_cons_zero]; try exact rfl)); (case hw => rfl); (case hl => rfl); (case hsp => rfl); (case he => rfl); (case hv => (intro w' hw'; (try (have hw2 := Ext.trans hEW hw')); (try (have hw3 := Exc.trans hEW hw')); (try (have hw4 := Exk.trans hEW hw')); (try (have hw5 := Mrk.trans hEW hw')); go_simp; exact rfl)); (case hw0 => (first | exact Below.refl _ _ | exact Exc.of_ext (Below.refl _ _) | exact Exk.of_ext (Below.refl _ _) | exact Mrk.of_ext (Below.refl _ _))); simp only [Act.put, List.setIfInBounds_toArray, List.set_cons_succ, List.set_cons_zero]) | (apply wpR_early; (case ho => (simp only [List.getElem?_toArray, List.getElem?_cons_succ, List.getElem?_cons_zero]; try exact rfl)); (case hw => rfl); (case hl => rfl); (case hsp => rfl); (case he => rfl); (case hv => (intro w' hw'; (try have hw2 := Ext.trans hEW hw'); go_simp; exact rfl)); simp only [Act.put, List.setIfInBounds_toArray, List.set_cons_succ, List.set_cons_zero]) | (apply wpR_pass; (case ho => (simp only [List.getElem?_toArray, List.getElem?_cons_succ, List.getElem?_cons_zero]; try exact rfl)); (case hw => rfl); (case hl => rfl); simp only [Act.put, List.setIfInBounds_toArray, List.set_cons_succ, List.set_cons_zero]))
  refine wpR_new (by ((simp only [List.getElem?_toArray, List.getElem?_cons_succ, List.getElem?_cons_zero]; try exact rfl))) _ rfl rfl rfl (fun V v => LendIn.lastsK _ _ _ _ _) (fun V V' h => rfl) (fun w' hw' hK => ?_) (fun v hv => ?_)
  · have HK2 := Lib.hid (hK 2 (by kernel_rfl)).2
    have HK5 := Lib.hid (hK 5 (by kernel_rfl)).2
    have HK8 := Lib.hid (hK 8 (by kernel_rfl)).2
    clear hK
    unfold opAt; go_simp; refine upAt_enter ?_
    have k2 : PgO w2.heap.size w' (.agg #[.int .i64 p.kind, .int .i64 p.level, .slice xA0 p.items.length xc0, .slice xD0 p.data.length xd0, .int .i64 p.next]) p := HK2.out
    have k5 : PgO w2.heap.size w' (.agg #[.int .i64 q.kind, .int .i64 q.level, .slice xA1 q.items.length xc1, .slice xD1 q.data.length xd1, .int .i64 q.next]) q := HK5.out
    have k8 : SOwn 5 w2.heap.size sep (.slice xA2 sep.length xc2) w' := HK8.out
    refine (nlend_any (k2.pgv hsm1) (k5.pgv hsm2) (k8.own.sl hsl) rfl (lend_bound hpl hql)).mono ?_
    rintro e w2 ⟨v1, v2, A9, c9, rfl, o1, o2, os, hE2⟩
    rw [HLA.out] at o1
    rw [HLB.out] at o2
    rw [HLS.out] at os ⊢
    rw [HLZ.out]
    have hs2 := (hEW.trans hw').x.size
    exact ⟨_, rfl, hE2, v1, v2, A9, c9, rfl, o1.mono hs2, o2.mono hs2, os.mono hs2⟩
  obtain ⟨iA7, ic7, dA7, dc7, iA8, ic8, dA8, dc8, lA, lc, rfl⟩ : ∃ a b c d a2 b2 c2 d2 A C, v = .tuple #[.agg #[.int .i64 la.kind, .int .i64 la.level, .slice a la.items.length b, .slice c la.data.length d, .int .i64 la.next], .agg #[.int .i64 lb.kind, .int .i64 lb.level, .slice a2 lb.items.length b2, .slice c2 lb.data.length d2, .int .i64 lb.next], .slice A ls.length C, .bool lz] := by
    obtain ⟨_, _, _, v1, v2, A, C, e, o1, o2, _⟩ := hv
    obtain ⟨a, b, c, d, _, rfl, _⟩ := o1.ex
    obtain ⟨a2, b2, c2, d2, _, rfl, _⟩ := o2.ex
    exact ⟨a, b, c, d, a2, b2, c2, d2, A, C, e⟩
  clear hv
  simp only [Act.put, List.setIfInBounds_toArray, List.set_cons_succ, List.set_cons_zero]
  repeat (first | (apply wpR_one; (case ho => (simp only [List.getElem?_toArray, List.getElem?_cons_succ, List.getElem?_cons_zero]; try exact rfl)); (case hw => rfl); (case hl => rfl); (case hsp => rfl); (case he => rfl); (case hv => (intro w' hw'; (try (have hw2 := Ext.trans hEW hw')); (try (have hw3 := Exc.trans hEW hw')); (try (have hw4 := Exk.trans hEW hw')); (try (have hw5 := Mrk.trans hEW hw')); go_simp; exact rfl)); (case hw0 => (first | exact Below.refl _ _ | exact Exc.of_ext (Below.refl _ _) | exact Exk.of_ext (Below.refl _ _) | exact Mrk.of_ext (Below.refl _ _))); simp only [Act.put, List.setIfInBounds_toArray, List.set_cons_succ, List.set_cons_zero]) | (apply wpR_early; (case ho => (simp only [List.getElem?_toArray, List.getElem?_cons_succ, List.getElem?_cons_zero]; try exact rfl)); (case hw => rfl); (case hl => rfl); (case hsp => rfl); (case he => rfl); (case hv => (intro w' hw'; (try have hw2 := Ext.trans hEW hw'); go_simp; exact rfl)); simp only [Act.put, List.setIfInBounds_toArray, List.set_cons_succ, List.set_cons_zero]) | (apply wpR_pass; (case ho => (simp only [List.getElem?_toArray, List.getElem?_cons_succ, List.getElem?_cons_zero]; try exact rfl)); (case hw => rfl); (case hl => rfl); simp only [Act.put, List.setIfInBounds_toArray, List.set_cons_succ, List.set_cons_zero]))
  refine wpR_alloc (by ((simp only [List.getElem?_toArray, List.getElem?_cons_succ, List.getElem?_cons_zero]; try exact rfl))) _ rfl rfl rfl (fun V v => PgCell.lasts _ _) (fun V V' h => rfl) (fun w' hw' hK => ?_) (fun v hv => ?_)
  · have hXs := (hEW.trans hw').x.size
    unfold opAt
    go_simp
    exact upAt_value ⟨ext_alloc _ _, ⟨_, rfl, hXs, _, heap_alloc_new _ _, rfl⟩, fun _ g hg => by injection hg with hg; exact ⟨hg.symm, by simp⟩⟩
  obtain ⟨g7, rfl⟩ : ∃ g, v = .pointer (some ⟨g, 0, none⟩) := by
    obtain ⟨_, _, _, g, e, _⟩ := hv
    exact ⟨g, e⟩
  clear hv
  simp only [Act.put, List.setIfInBounds_toArray, List.set_cons_succ, List.set_cons_zero]
  refine wpR_alloc (by ((simp only [List.getElem?_toArray, List.getElem?_cons_succ, List.getElem?_cons_zero]; try exact rfl))) _ rfl rfl rfl (fun V v => PgCell.lasts _ _) (fun V V' h => rfl) (fun w' hw' hK => ?_) (fun v hv => ?_)
  · have hXs := (hEW.trans hw').x.size
    unfold opAt
    go_simp
    exact upAt_value ⟨ext_alloc _ _, ⟨_, rfl, hXs, _, heap_alloc_new _ _, rfl⟩, fun _ g hg => by injection hg with hg; exact ⟨hg.symm, by simp⟩⟩
  obtain ⟨g8, rfl⟩ : ∃ g, v = .pointer (some ⟨g, 0, none⟩) := by
    obtain ⟨_, _, _, g, e, _⟩ := hv
    exact ⟨g, e⟩
  clear hv
  simp only [Act.put, List.setIfInBounds_toArray, List.set_cons_succ, List.set_cons_zero]
  refine wpR_late (by ((simp only [List.getElem?_toArray, List.getElem?_cons_succ, List.getElem?_cons_zero]; try exact rfl))) _ rfl rfl (fun V v w' w2 h he => h.ext he) (fun V V' h => by simp only [h 11 (by kernel_rfl), h 17 (by kernel_rfl)]) (fun w' hw' hK hF => ?_) (fun v hv => ?_)
  · obtain ⟨g, e8, hg8, cs, hb8, hs8⟩ := (hK 17 (by kernel_rfl)).2
    obtain rfl := ptr_inj (show Value.pointer (some ⟨g7, 0, none⟩) = _ from e8)
    refine opAt_list rfl #[] (fun Q hQ => ?_)
    refine wpList_store_box rfl 26 _ _ rfl g7 _ rfl rfl 26 _ hb8 (by kernel_rfl) hs8 (by simp [Value.oneCell']) (fun w2 hb hg => ?_)
    exact hQ _ _ ⟨Exk.of_only hg hb8 hb (by rw [hs8]; rfl) ⟨hg8, _, _, rfl⟩, ⟨g7, _, rfl, hg8, rfl, hb⟩⟩
  clear hv
  simp only [Act.put, List.setIfInBounds_toArray, List.set_cons_succ, List.set_cons_zero]
  refine wpR_lateP (by ((simp only [List.getElem?_toArray, List.getElem?_cons_succ, List.getElem?_cons_zero]; try exact rfl))) _ rfl rfl (fun V v w' w2 h he => ⟨h.1.ext he, h.2.1.ext he, h.2.2⟩) (fun V V' h => by simp only [h 11 (by kernel_rfl), h 17 (by kernel_rfl), h 18 (by kernel_rfl)]) (fun w' hw' hK hF hP => ?_) (fun v hv => ?_)
  · obtain ⟨g, e9, hg9, cs, hb9, hs9⟩ := (hK 18 (by kernel_rfl)).2
    obtain rfl := ptr_inj (show Value.pointer (some ⟨g8, 0, none⟩) = _ from e9)
    have hne : g7 ≠ g8 := fun e => hP 17 18 (by kernel_rfl) (by kernel_rfl) (by decide) (by kernel_rfl) (by kernel_rfl) g7 rfl (by rw [e]; rfl)
    obtain ⟨g', cs', e10, hg10, e11, hb10⟩ := hF
    obtain rfl := ptr_inj (show Value.pointer (some ⟨g7, 0, none⟩) = _ from e10)
    refine opAt_list rfl #[] (fun Q hQ => ?_)
    refine wpList_store_box rfl 26 _ _ rfl g8 _ rfl rfl 26 _ hb9 (by kernel_rfl) hs9 (by simp [Value.oneCell']) (fun w2 hb hg => ?_)
    exact hQ _ _ ⟨Exk.of_only hg hb9 hb (by rw [hs9]; rfl) ⟨hg9, _, _, rfl⟩, ⟨g7, _, rfl, hg10, e11, blk_other hb10 hg hne⟩, ⟨g8, _, rfl, hg9, rfl, hb⟩, fun e => hne (ptr_inj (show Value.pointer (some ⟨g7, 0, none⟩) = Value.pointer (some ⟨g8, 0, none⟩) from e))⟩
  clear hv
  simp only [Act.put, List.setIfInBounds_toArray, List.set_cons_succ, List.set_cons_zero]
  repeat (first | (apply wpR_one; (case ho => (simp only [List.getElem?_toArray, List.getElem?_cons_succ, List.getElem?_cons_zero]; try exact rfl)); (case hw => rfl); (case hl => rfl); (case hsp => rfl); (case he => rfl); (case hv => (intro w' hw'; (try (have hw2 := Ext.trans hEW hw')); (try (have hw3 := Exc.trans hEW hw')); (try (have hw4 := Exk.trans hEW hw')); (try (have hw5 := Mrk.trans hEW hw')); go_simp; exact rfl)); (case hw0 => (first | exact Below.refl _ _ | exact Exc.of_ext (Below.refl _ _) | exact Exk.of_ext (Below.refl _ _) | exact Mrk.of_ext (Below.refl _ _))); simp only [Act.put, List.setIfInBounds_toArray, List.set_cons_succ, List.set_cons_zero]) | (apply wpR_early; (case ho => (simp only [List.getElem?_toArray, List.getElem?_cons_succ, List.getElem?_cons_zero]; try exact rfl)); (case hw => rfl); (case hl => rfl); (case hsp => rfl); (case he => rfl); (case hv => (intro w' hw'; (try have hw2 := Ext.trans hEW hw'); go_simp; exact rfl)); simp only [Act.put, List.setIfInBounds_toArray, List.set_cons_succ, List.set_cons_zero]) | (apply wpR_pass; (case ho => (simp only [List.getElem?_toArray, List.getElem?_cons_succ, List.getElem?_cons_zero]; try exact rfl)); (case hw => rfl); (case hl => rfl); simp only [Act.put, List.setIfInBounds_toArray, List.set_cons_succ, List.set_cons_zero]))
  apply wpR_nil
  apply hN
  intro w3 hE' hK hF
  have hEn := hXb w3 hE'
  have hk := (hK 11).2
  obtain ⟨hq1, hq2, hq3, hG1, hG2⟩ : PgV w3 (.agg #[.int .i64 la.kind, .int .i64 la.level, .slice iA7 la.items.length ic7, .slice dA7 la.data.length dc7, .int .i64 la.next]) la ∧ PgV w3 (.agg #[.int .i64 lb.kind, .int .i64 lb.level, .slice iA8 lb.items.length ic8, .slice dA8 lb.data.length dc8, .int .i64 lb.next]) lb ∧ Sl w3 lA lc ls ∧ w3.heap[g7]? = some (.cells #[.int .i64 la.kind, .int .i64 la.level, .slice iA7 la.items.length ic7, .slice dA7 la.data.length dc7, .int .i64 la.next] 26) ∧ w3.heap[g8]? = some (.cells #[.int .i64 lb.kind, .int .i64 lb.level, .slice iA8 lb.items.length ic8, .slice dA8 lb.data.length dc8, .int .i64 lb.next] 26) := by
    obtain ⟨v1, v2, A9, c9, e, o1, o2, os⟩ := hk
    have e' : Value.tuple #[.agg #[.int .i64 la.kind, .int .i64 la.level, .slice iA7 la.items.length ic7, .slice dA7 la.data.length dc7, .int .i64 la.next], .agg #[.int .i64 lb.kind, .int .i64 lb.level, .slice iA8 lb.items.length ic8, .slice dA8 lb.data.length dc8, .int .i64 lb.next], .slice lA ls.length lc, .bool lz] = .tuple #[v1, v2, .slice A9 ls.length c9, .bool lz] := e
    simp only [Value.tuple.injEq, Array.mk.injEq, List.cons.injEq, Value.slice.injEq, and_true, true_and] at e'
    obtain ⟨rfl, rfl, rfl, rfl⟩ := e'
    obtain ⟨s1, s2, _⟩ := hF
    obtain ⟨_, _, x1, x2, x3, x4⟩ := s1
    obtain rfl := ptr_inj x1
    have x3' : Value.agg #[.int .i64 la.kind, .int .i64 la.level, .slice iA7 la.items.length ic7, .slice dA7 la.data.length dc7, .int .i64 la.next] = _ := x3
    injection x3' with x3'
    subst x3'
    obtain ⟨_, _, y1, y2, y3, y4⟩ := s2
    obtain rfl := ptr_inj y1
    have y3' : Value.agg #[.int .i64 lb.kind, .int .i64 lb.level, .slice iA8 lb.items.length ic8, .slice dA8 lb.data.length dc8, .int .i64 lb.next] = _ := y3
    injection y3' with y3'
    subst y3'
    exact ⟨o1.pgv hlm.a, o2.pgv hlm.b, os.sl hlm.c, x4, y4⟩
  have HG7 := Lib.hid hG1
  have HG8 := Lib.hid hG2
  clear hG1 hG2
  clear hk hK hN hF t0 t1 t2 t3 t4 t5 t6 t7 t8 t9 t10 t11 hX hXb hEW hE' hW hF0 hw0
  replace HT := Lib.hid (hEn.blk HT.out)
  replace hE := hE.trans hEn
  clear hEn
  have hfld := run_field_items
  have ct0 := cell_of_row w3 w.heap.size 0 _ _ _ HT.out
  have ct1 := cell_of_row w3 w.heap.size 1 _ _ _ HT.out
  have ct2 := cell_of_row w3 w.heap.size 2 _ _ _ HT.out
  have ct3 := cell_of_row w3 w.heap.size 3 _ _ _ HT.out
  have ct4 := cell_of_row w3 w.heap.size 4 _ _ _ HT.out
  have ct5 := cell_of_row w3 w.heap.size 5 _ _ _ HT.out
  have ct6 := cell_of_row w3 w.heap.size 6 _ _ _ HT.out
  have ct7 := cell_of_row w3 w.heap.size 7 _ _ _ HT.out
  have ct8 := cell_of_row w3 w.heap.size 8 _ _ _ HT.out
  have ct9 := cell_of_row w3 w.heap.size 9 _ _ _ HT.out
  have ct10 := cell_of_row w3 w.heap.size 10 _ _ _ HT.out
  have ct11 := cell_of_row w3 w.heap.size 11 _ _ _ HT.out
  simp only [List.getElem?_toArray, List.getElem?_cons_zero, List.getElem?_cons_succ] at ct0 ct1 ct2 ct3 ct4 ct5 ct6 ct7 ct8 ct9 ct10 ct11
  go_wp2_with fail
  clear ct0 ct1 ct2 ct3 ct4 ct5 ct6 ct7 ct8 ct9 ct10 ct11
  refine gives_false.mono ?_
  rintro e w4 ⟨rfl, hE4⟩
  replace HT := Lib.hid (hE4.blk HT.out)
  replace HG7 := Lib.hid (hE4.blk HG7.out)
  replace HG8 := Lib.hid (hE4.blk HG8.out)
  replace hq1 := hq1.ext hE4
  replace hq2 := hq2.ext hE4
  replace hq3 := hq3.ext hE4
  replace hE := hE.trans hE4
  clear hE4
  have ct0 := cell_of_row w4 w.heap.size 0 _ _ _ HT.out
  have ct1 := cell_of_row w4 w.heap.size 1 _ _ _ HT.out
  have ct2 := cell_of_row w4 w.heap.size 2 _ _ _ HT.out
  have ct3 := cell_of_row w4 w.heap.size 3 _ _ _ HT.out
  have ct4 := cell_of_row w4 w.heap.size 4 _ _ _ HT.out
  have ct5 := cell_of_row w4 w.heap.size 5 _ _ _ HT.out
  have ct6 := cell_of_row w4 w.heap.size 6 _ _ _ HT.out
  have ct7 := cell_of_row w4 w.heap.size 7 _ _ _ HT.out
  have ct8 := cell_of_row w4 w.heap.size 8 _ _ _ HT.out
  have ct9 := cell_of_row w4 w.heap.size 9 _ _ _ HT.out
  have ct10 := cell_of_row w4 w.heap.size 10 _ _ _ HT.out
  have ct11 := cell_of_row w4 w.heap.size 11 _ _ _ HT.out
  simp only [List.getElem?_toArray, List.getElem?_cons_zero, List.getElem?_cons_succ] at ct0 ct1 ct2 ct3 ct4 ct5 ct6 ct7 ct8 ct9 ct10 ct11
  have HLZ2 := Lib.hid (show lz = (decide (2 ≤ q.items.length) && decide (p.items.length < 8)) by
    rw [← HLZ.out, lend_law HF.out, lendOk_iff HF.out]
    rfl)
  by_cases hg : 2 ≤ q.items.length
  rotate_left
  · obtain rfl : lz = false := by rw [HLZ2.out]; simp [hg]
    have hg1 : (q.items.length : Int) < 2 := by omega
    clear hg
    go_wp2
    go_ret
    exact ⟨rfl, hE⟩
  have hg1 : (2 : Int) ≤ q.items.length := by omega
  go_wp2_with fail
  clear ct0 ct1 ct2 ct3 ct4 ct5 ct6 ct7 ct8 ct9 ct10 ct11
  refine takes_false.mono ?_
  rintro e w5 ⟨rfl, hE5⟩
  replace HT := Lib.hid (hE5.blk HT.out)
  replace HG7 := Lib.hid (hE5.blk HG7.out)
  replace HG8 := Lib.hid (hE5.blk HG8.out)
  replace hq1 := hq1.ext hE5
  replace hq2 := hq2.ext hE5
  replace hq3 := hq3.ext hE5
  replace hE := hE.trans hE5
  clear hE5
  by_cases ht : p.items.length < 8
  rotate_left
  · obtain rfl : lz = false := by rw [HLZ2.out]; simp [ht]
    have ht1 : (8 : Int) ≤ p.items.length := by omega
    clear ht
    go_wp2
    go_ret
    exact ⟨rfl, hE⟩
  have ht1 : (p.items.length : Int) < 8 := by omega
  obtain rfl : lz = true := by rw [HLZ2.out]; simp [hg, ht]
  have HSO := Lib.hid (show lendB p q sep false = some (la, lb, ls) by
    have h1 := HLA.out
    have h2 := HLB.out
    have h3 := HLS.out
    have h4 := HLZ.out
    cases h : lendB p q sep false with
    | none => rw [h] at h4; cases h4
    | some r =>
      rw [h] at h1 h2 h3
      obtain ⟨a, b, s⟩ := r
      obtain rfl : a = la := h1
      obtain rfl : b = lb := h2
      obtain rfl : s = ls := h3
      rfl)
  have HLT := Lib.hid (lend_some HF.out HSO.out)
  have hmin := fit_min HF.out
  have HALL := Lib.hid (show allB la lb ls = allB p q sep by
    rw [allB_row (by rw [HLT.out.kind.1, HLT.out.kind.2]; exact HF.out.kind), allB_row HF.out.kind, HLT.out.row])
  have htk : la.items.length = p.items.length + 1 := HLT.out.takes
  have hwr : IntKind.i64.wrap ((p.items.length : Int) + 1) = (p.items.length : Int) + 1 := IntWalk.i64_in _ (by omega)
  have hne : (((p.items.length : Int) + 1) != (la.items.length : Int)) = false := by rw [htk]; simp
  have HTK := Lib.hid htk
  have HMIN := Lib.hid hmin
  clear hg ht htk hmin
  go_wp2_with fail
  have e0 : ∀ w', Ext w5 w' → w'.cell? ⟨w.heap.size, 0, none⟩ = some (.int .i64 p.kind) := fun w' h => cell_of_row _ _ _ _ _ _ (h.blk HT.out)
  have e1 : ∀ w', Ext w5 w' → w'.cell? ⟨w.heap.size, 1, none⟩ = some (.int .i64 p.level) := fun w' h => cell_of_row _ _ _ _ _ _ (h.blk HT.out)
  have e2 : ∀ w', Ext w5 w' → w'.cell? ⟨w.heap.size, 2, none⟩ = some (.slice iA p.items.length ic) := fun w' h => cell_of_row _ _ _ _ _ _ (h.blk HT.out)
  have e3 : ∀ w', Ext w5 w' → w'.cell? ⟨w.heap.size, 3, none⟩ = some (.slice dA p.data.length dc) := fun w' h => cell_of_row _ _ _ _ _ _ (h.blk HT.out)
  have e4 : ∀ w', Ext w5 w' → w'.cell? ⟨w.heap.size, 4, none⟩ = some (.int .i64 p.next) := fun w' h => cell_of_row _ _ _ _ _ _ (h.blk HT.out)
  have e5 : ∀ w', Ext w5 w' → w'.cell? ⟨w.heap.size, 5, none⟩ = some (.int .i64 q.kind) := fun w' h => cell_of_row _ _ _ _ _ _ (h.blk HT.out)
  have e6 : ∀ w', Ext w5 w' → w'.cell? ⟨w.heap.size, 6, none⟩ = some (.int .i64 q.level) := fun w' h => cell_of_row _ _ _ _ _ _ (h.blk HT.out)
  have e7 : ∀ w', Ext w5 w' → w'.cell? ⟨w.heap.size, 7, none⟩ = some (.slice jA q.items.length jc) := fun w' h => cell_of_row _ _ _ _ _ _ (h.blk HT.out)
  have e8 : ∀ w', Ext w5 w' → w'.cell? ⟨w.heap.size, 8, none⟩ = some (.slice eA q.data.length ec) := fun w' h => cell_of_row _ _ _ _ _ _ (h.blk HT.out)
  have e9 : ∀ w', Ext w5 w' → w'.cell? ⟨w.heap.size, 9, none⟩ = some (.int .i64 q.next) := fun w' h => cell_of_row _ _ _ _ _ _ (h.blk HT.out)
  have e10 : ∀ w', Ext w5 w' → w'.cell? ⟨w.heap.size, 10, none⟩ = some (.slice sA sep.length sc) := fun w' h => cell_of_row _ _ _ _ _ _ (h.blk HT.out)
  have e11 : ∀ w', Ext w5 w' → w'.cell? ⟨w.heap.size, 11, none⟩ = some (.bool false) := fun w' h => cell_of_row _ _ _ _ _ _ (h.blk HT.out)
  have x0 : ∀ w', Ext w5 w' → w'.cell? ⟨g7, 0, none⟩ = some (.int .i64 la.kind) := fun w' h => cell_of_row _ _ _ _ _ _ (h.blk HG7.out)
  have x1 : ∀ w', Ext w5 w' → w'.cell? ⟨g7, 1, none⟩ = some (.int .i64 la.level) := fun w' h => cell_of_row _ _ _ _ _ _ (h.blk HG7.out)
  have x2 : ∀ w', Ext w5 w' → w'.cell? ⟨g7, 2, none⟩ = some (.slice iA7 la.items.length ic7) := fun w' h => cell_of_row _ _ _ _ _ _ (h.blk HG7.out)
  have x3 : ∀ w', Ext w5 w' → w'.cell? ⟨g7, 3, none⟩ = some (.slice dA7 la.data.length dc7) := fun w' h => cell_of_row _ _ _ _ _ _ (h.blk HG7.out)
  have x4 : ∀ w', Ext w5 w' → w'.cell? ⟨g7, 4, none⟩ = some (.int .i64 la.next) := fun w' h => cell_of_row _ _ _ _ _ _ (h.blk HG7.out)
  have y0 : ∀ w', Ext w5 w' → w'.cell? ⟨g8, 0, none⟩ = some (.int .i64 lb.kind) := fun w' h => cell_of_row _ _ _ _ _ _ (h.blk HG8.out)
  have y1 : ∀ w', Ext w5 w' → w'.cell? ⟨g8, 1, none⟩ = some (.int .i64 lb.level) := fun w' h => cell_of_row _ _ _ _ _ _ (h.blk HG8.out)
  have y2 : ∀ w', Ext w5 w' → w'.cell? ⟨g8, 2, none⟩ = some (.slice iA8 lb.items.length ic8) := fun w' h => cell_of_row _ _ _ _ _ _ (h.blk HG8.out)
  have y3 : ∀ w', Ext w5 w' → w'.cell? ⟨g8, 3, none⟩ = some (.slice dA8 lb.data.length dc8) := fun w' h => cell_of_row _ _ _ _ _ _ (h.blk HG8.out)
  have y4 : ∀ w', Ext w5 w' → w'.cell? ⟨g8, 4, none⟩ = some (.int .i64 lb.next) := fun w' h => cell_of_row _ _ _ _ _ _ (h.blk HG8.out)
  refine wp_region_rg Ext rel_ext (fun _ => True) [0, 1, 2, 3, 4, 5, 6, 7, 8, 9, 10, 11, 12, 13, 14, 15, 16, 17, 18, 19, 20, 21, 22, 23, 24, 25, 26] (fun i => match i with
    | 9 => some fun _ => eqV (.bool true)
    | 13 => some fun _ => eqV (.agg #[.int .i64 p.kind, .int .i64 p.level, .slice iA p.items.length ic, .slice dA p.data.length dc, .int .i64 p.next])
    | 22 => some fun _ => eqV (.agg #[.int .i64 la.kind, .int .i64 la.level, .slice iA7 la.items.length ic7, .slice dA7 la.data.length dc7, .int .i64 la.next])
    | _ => none) (fun _ => none) (fun _ => false) (by kernel_rfl) (by kernel_rfl) (fun _ _ _ _ => trivial) trivial (fun W N hW _ hN => ?_)
  have hEW : Ext w5 W := hW
  repeat (first | (apply wpR_one; (case ho => (simp only [List.getElem?_toArray, List.getElem?_cons_succ, List.getElem?_cons_zero]; try exact rfl)); (case hw => rfl); (case hl => rfl); (case hsp => rfl); (case he => rfl); (case hv => (intro w' hw'; (try (have hw2 := Ext.trans hEW hw')); (try (have hw3 := Exc.trans hEW hw')); (try (have hw4 := Exk.trans hEW hw')); (try (have hw5 := Mrk.trans hEW hw')); go_simp; exact rfl)); (case hw0 => (first | exact Below.refl _ _ | exact Exc.of_ext (Below.refl _ _) | exact Exk.of_ext (Below.refl _ _) | exact Mrk.of_ext (Below.refl _ _))); simp only [Act.put, List.setIfInBounds_toArray, List.set_cons_succ, List.set_cons_zero]) | (apply wpR_early; (case ho => (simp only [List.getElem?_toArray, List.getElem?_cons_succ, List.getElem?_cons_zero]; try exact rfl)); (case hw => rfl); (case hl => rfl); (case hsp => rfl); (case he => rfl); (case hv => (intro w' hw'; (try have hw2 := Ext.trans hEW hw'); go_simp; exact rfl)); simp only [Act.put, List.setIfInBounds_toArray, List.set_cons_succ, List.set_cons_zero]) | (apply wpR_pass; (case ho => (simp only [List.getElem?_toArray, List.getElem?_cons_succ, List.getElem?_cons_zero]; try exact rfl)); (case hw => rfl); (case hl => rfl); simp only [Act.put, List.setIfInBounds_toArray, List.set_cons_succ, List.set_cons_zero]))
  refine wpR_new (by ((simp only [List.getElem?_toArray, List.getElem?_cons_succ, List.getElem?_cons_zero]; try exact rfl))) _ rfl rfl rfl (fun V v => eqV.lasts _ v) (fun V V' h => rfl) (fun w' hw' hK => ?_) (fun u hu => ?_)
  · clear hK
    have hX5 := hEW.trans hw'
    have hX := hE.trans hX5
    unfold opAt; go_simp; refine upAt_enter ?_
    refine (same_any (hv1.ext hX) (hv2.ext hX) (hs.ext hX) rfl (hq1.ext hX5) (hq2.ext hX5) (hq3.ext hX5) rfl (by have := HMIN.out; omega) HALL.out).mono ?_
    rintro e w9 ⟨rfl, hE9⟩
    exact ⟨_, rfl, hE9, rfl⟩
  obtain rfl : u = .bool true := hu.choose_spec.2.2
  clear hu
  simp only [Act.put, List.setIfInBounds_toArray, List.set_cons_succ, List.set_cons_zero]
  repeat (first | (apply wpR_one; (case ho => (simp only [List.getElem?_toArray, List.getElem?_cons_succ, List.getElem?_cons_zero]; try exact rfl)); (case hw => rfl); (case hl => rfl); (case hsp => rfl); (case he => rfl); (case hv => (intro w' hw'; (try (have hw2 := Ext.trans hEW hw')); (try (have hw3 := Exc.trans hEW hw')); (try (have hw4 := Exk.trans hEW hw')); (try (have hw5 := Mrk.trans hEW hw')); go_simp; exact rfl)); (case hw0 => (first | exact Below.refl _ _ | exact Exc.of_ext (Below.refl _ _) | exact Exk.of_ext (Below.refl _ _) | exact Mrk.of_ext (Below.refl _ _))); simp only [Act.put, List.setIfInBounds_toArray, List.set_cons_succ, List.set_cons_zero]) | (apply wpR_early; (case ho => (simp only [List.getElem?_toArray, List.getElem?_cons_succ, List.getElem?_cons_zero]; try exact rfl)); (case hw => rfl); (case hl => rfl); (case hsp => rfl); (case he => rfl); (case hv => (intro w' hw'; (try have hw2 := Ext.trans hEW hw'); go_simp; exact rfl)); simp only [Act.put, List.setIfInBounds_toArray, List.set_cons_succ, List.set_cons_zero]) | (apply wpR_pass; (case ho => (simp only [List.getElem?_toArray, List.getElem?_cons_succ, List.getElem?_cons_zero]; try exact rfl)); (case hw => rfl); (case hl => rfl); simp only [Act.put, List.setIfInBounds_toArray, List.set_cons_succ, List.set_cons_zero]))
  refine wpR_new (by ((simp only [List.getElem?_toArray, List.getElem?_cons_succ, List.getElem?_cons_zero]; try exact rfl))) _ rfl rfl rfl (fun V v => eqV.lasts _ v) (fun V V' h => rfl) (fun w' hw' hK => ?_) (fun u hu => ?_)
  · clear hK
    unfold opAt; go_simp; refine upAt_enter ?_
    refine takes_false.mono ?_
    rintro e w9 ⟨rfl, hE9⟩
    exact ⟨_, rfl, hE9, rfl⟩
  obtain rfl : u = .agg #[.int .i64 p.kind, .int .i64 p.level, .slice iA p.items.length ic, .slice dA p.data.length dc, .int .i64 p.next] := hu.choose_spec.2.2
  clear hu
  simp only [Act.put, List.setIfInBounds_toArray, List.set_cons_succ, List.set_cons_zero]
  repeat (first | (apply wpR_one; (case ho => (simp only [List.getElem?_toArray, List.getElem?_cons_succ, List.getElem?_cons_zero]; try exact rfl)); (case hw => rfl); (case hl => rfl); (case hsp => rfl); (case he => rfl); (case hv => (intro w' hw'; (try (have hw2 := Ext.trans hEW hw')); (try (have hw3 := Exc.trans hEW hw')); (try (have hw4 := Exk.trans hEW hw')); (try (have hw5 := Mrk.trans hEW hw')); go_simp; exact rfl)); (case hw0 => (first | exact Below.refl _ _ | exact Exc.of_ext (Below.refl _ _) | exact Exk.of_ext (Below.refl _ _) | exact Mrk.of_ext (Below.refl _ _))); simp only [Act.put, List.setIfInBounds_toArray, List.set_cons_succ, List.set_cons_zero]) | (apply wpR_early; (case ho => (simp only [List.getElem?_toArray, List.getElem?_cons_succ, List.getElem?_cons_zero]; try exact rfl)); (case hw => rfl); (case hl => rfl); (case hsp => rfl); (case he => rfl); (case hv => (intro w' hw'; (try have hw2 := Ext.trans hEW hw'); go_simp; exact rfl)); simp only [Act.put, List.setIfInBounds_toArray, List.set_cons_succ, List.set_cons_zero]) | (apply wpR_pass; (case ho => (simp only [List.getElem?_toArray, List.getElem?_cons_succ, List.getElem?_cons_zero]; try exact rfl)); (case hw => rfl); (case hl => rfl); simp only [Act.put, List.setIfInBounds_toArray, List.set_cons_succ, List.set_cons_zero]))
  refine wpR_new (by ((simp only [List.getElem?_toArray, List.getElem?_cons_succ, List.getElem?_cons_zero]; try exact rfl))) _ rfl rfl rfl (fun V v => eqV.lasts _ v) (fun V V' h => rfl) (fun w' hw' hK => ?_) (fun u hu => ?_)
  · clear hK
    unfold opAt; go_simp; refine upAt_enter ?_
    refine takes_false.mono ?_
    rintro e w9 ⟨rfl, hE9⟩
    exact ⟨_, rfl, hE9, rfl⟩
  obtain rfl : u = .agg #[.int .i64 la.kind, .int .i64 la.level, .slice iA7 la.items.length ic7, .slice dA7 la.data.length dc7, .int .i64 la.next] := hu.choose_spec.2.2
  clear hu
  simp only [Act.put, List.setIfInBounds_toArray, List.set_cons_succ, List.set_cons_zero]
  repeat (first | (apply wpR_one; (case ho => (simp only [List.getElem?_toArray, List.getElem?_cons_succ, List.getElem?_cons_zero]; try exact rfl)); (case hw => rfl); (case hl => rfl); (case hsp => rfl); (case he => rfl); (case hv => (intro w' hw'; (try (have hw2 := Ext.trans hEW hw')); (try (have hw3 := Exc.trans hEW hw')); (try (have hw4 := Exk.trans hEW hw')); (try (have hw5 := Mrk.trans hEW hw')); go_simp; exact rfl)); (case hw0 => (first | exact Below.refl _ _ | exact Exc.of_ext (Below.refl _ _) | exact Exk.of_ext (Below.refl _ _) | exact Mrk.of_ext (Below.refl _ _))); simp only [Act.put, List.setIfInBounds_toArray, List.set_cons_succ, List.set_cons_zero]) | (apply wpR_early; (case ho => (simp only [List.getElem?_toArray, List.getElem?_cons_succ, List.getElem?_cons_zero]; try exact rfl)); (case hw => rfl); (case hl => rfl); (case hsp => rfl); (case he => rfl); (case hv => (intro w' hw'; (try have hw2 := Ext.trans hEW hw'); go_simp; exact rfl)); simp only [Act.put, List.setIfInBounds_toArray, List.set_cons_succ, List.set_cons_zero]) | (apply wpR_pass; (case ho => (simp only [List.getElem?_toArray, List.getElem?_cons_succ, List.getElem?_cons_zero]; try exact rfl)); (case hw => rfl); (case hl => rfl); simp only [Act.put, List.setIfInBounds_toArray, List.set_cons_succ, List.set_cons_zero]))
  apply wpR_nil
  apply hN
  intro w6 hE' hK hF
  have hE6 := hEW.trans hE'
  replace HT := Lib.hid (hE6.blk HT.out)
  replace HG7 := Lib.hid (hE6.blk HG7.out)
  replace HG8 := Lib.hid (hE6.blk HG8.out)
  replace hq1 := hq1.ext hE6
  replace hq2 := hq2.ext hE6
  replace hq3 := hq3.ext hE6
  replace hE := hE.trans hE6
  clear hK hF hN hEW hE' hW hE6 hwr e0 e1 e2 e3 e4 e5 e6 e7 e8 e9 e10 e11 x0 x1 x2 x3 x4 y0 y1 y2 y3 y4
  have ct0 := cell_of_row w6 w.heap.size 0 _ _ _ HT.out
  have ct1 := cell_of_row w6 w.heap.size 1 _ _ _ HT.out
  have ct2 := cell_of_row w6 w.heap.size 2 _ _ _ HT.out
  have ct3 := cell_of_row w6 w.heap.size 3 _ _ _ HT.out
  have ct4 := cell_of_row w6 w.heap.size 4 _ _ _ HT.out
  have ct5 := cell_of_row w6 w.heap.size 5 _ _ _ HT.out
  have ct6 := cell_of_row w6 w.heap.size 6 _ _ _ HT.out
  have ct7 := cell_of_row w6 w.heap.size 7 _ _ _ HT.out
  have ct8 := cell_of_row w6 w.heap.size 8 _ _ _ HT.out
  have ct9 := cell_of_row w6 w.heap.size 9 _ _ _ HT.out
  have ct10 := cell_of_row w6 w.heap.size 10 _ _ _ HT.out
  have ct11 := cell_of_row w6 w.heap.size 11 _ _ _ HT.out
  simp only [List.getElem?_toArray, List.getElem?_cons_zero, List.getElem?_cons_succ] at ct0 ct1 ct2 ct3 ct4 ct5 ct6 ct7 ct8 ct9 ct10 ct11
  have hcs : (p.kind == 2) = false ∨ ((p.kind == 2) = true ∧ (q.items.length : Int) < 3) ∨ ((p.kind == 2) = true ∧ (3 : Int) ≤ q.items.length) := by
    cases h : p.kind == 2
    · exact .inl rfl
    · by_cases h3 : 3 ≤ q.items.length
      · exact .inr (.inr ⟨rfl, by omega⟩)
      · exact .inr (.inl ⟨rfl, by omega⟩)
  rcases hcs with c1 | ⟨c1, hg3⟩ | ⟨c1, hg3⟩
  · have HG3 := Lib.hid (show p.kind = 2 → 3 ≤ givesN p q false from fun h => by simp [h] at c1)
    obtain ⟨u, HU⟩ : ∃ u, Hid (lendB la lb ls true = some (p, q, u) ∧ (p.kind ≠ 1 → u = sep) ∧ FitP p q u) := by
      obtain ⟨u, h1, h2, h3⟩ := HLT.out.back HG3.out
      exact ⟨u, Lib.hid ⟨h1, h2, h3⟩⟩
    have HF2 := Lib.hid (HLT.out.fit HG3.out)
    have cg70 := cell_of_row w6 g7 0 _ _ _ HG7.out
    have cg71 := cell_of_row w6 g7 1 _ _ _ HG7.out
    have cg72 := cell_of_row w6 g7 2 _ _ _ HG7.out
    have cg73 := cell_of_row w6 g7 3 _ _ _ HG7.out
    have cg74 := cell_of_row w6 g7 4 _ _ _ HG7.out
    simp only [List.getElem?_toArray, List.getElem?_cons_zero, List.getElem?_cons_succ] at cg70 cg71 cg72 cg73 cg74
    have cg80 := cell_of_row w6 g8 0 _ _ _ HG8.out
    have cg81 := cell_of_row w6 g8 1 _ _ _ HG8.out
    have cg82 := cell_of_row w6 g8 2 _ _ _ HG8.out
    have cg83 := cell_of_row w6 g8 3 _ _ _ HG8.out
    have cg84 := cell_of_row w6 g8 4 _ _ _ HG8.out
    simp only [List.getElem?_toArray, List.getElem?_cons_zero, List.getElem?_cons_succ] at cg80 cg81 cg82 cg83 cg84
    go_wp2_with fail
    clear ct0 ct1 ct2 ct3 ct4 ct5 ct6 ct7 ct8 ct9 ct10 ct11 cg70 cg71 cg72 cg73 cg74 cg80 cg81 cg82 cg83 cg84
    refine (fits_any hq1 hq2 hq3 rfl).mono ?_
    rintro e wa ⟨z, rfl, hz, hEa⟩
    obtain rfl : z = true := hz.2 HF2.out
    clear hz
    replace HT := Lib.hid (hEa.blk HT.out)
    replace HG7 := Lib.hid (hEa.blk HG7.out)
    replace HG8 := Lib.hid (hEa.blk HG8.out)
    replace hq1 := hq1.ext hEa
    replace hq2 := hq2.ext hEa
    replace hq3 := hq3.ext hEa
    replace hE := hE.trans hEa
    clear hEa
    have ct0 := cell_of_row wa w.heap.size 0 _ _ _ HT.out
    have ct1 := cell_of_row wa w.heap.size 1 _ _ _ HT.out
    have ct2 := cell_of_row wa w.heap.size 2 _ _ _ HT.out
    have ct3 := cell_of_row wa w.heap.size 3 _ _ _ HT.out
    have ct4 := cell_of_row wa w.heap.size 4 _ _ _ HT.out
    have ct5 := cell_of_row wa w.heap.size 5 _ _ _ HT.out
    have ct6 := cell_of_row wa w.heap.size 6 _ _ _ HT.out
    have ct7 := cell_of_row wa w.heap.size 7 _ _ _ HT.out
    have ct8 := cell_of_row wa w.heap.size 8 _ _ _ HT.out
    have ct9 := cell_of_row wa w.heap.size 9 _ _ _ HT.out
    have ct10 := cell_of_row wa w.heap.size 10 _ _ _ HT.out
    have ct11 := cell_of_row wa w.heap.size 11 _ _ _ HT.out
    simp only [List.getElem?_toArray, List.getElem?_cons_zero, List.getElem?_cons_succ] at ct0 ct1 ct2 ct3 ct4 ct5 ct6 ct7 ct8 ct9 ct10 ct11
    have cg70 := cell_of_row wa g7 0 _ _ _ HG7.out
    have cg71 := cell_of_row wa g7 1 _ _ _ HG7.out
    have cg72 := cell_of_row wa g7 2 _ _ _ HG7.out
    have cg73 := cell_of_row wa g7 3 _ _ _ HG7.out
    have cg74 := cell_of_row wa g7 4 _ _ _ HG7.out
    simp only [List.getElem?_toArray, List.getElem?_cons_zero, List.getElem?_cons_succ] at cg70 cg71 cg72 cg73 cg74
    have cg80 := cell_of_row wa g8 0 _ _ _ HG8.out
    have cg81 := cell_of_row wa g8 1 _ _ _ HG8.out
    have cg82 := cell_of_row wa g8 2 _ _ _ HG8.out
    have cg83 := cell_of_row wa g8 3 _ _ _ HG8.out
    have cg84 := cell_of_row wa g8 4 _ _ _ HG8.out
    simp only [List.getElem?_toArray, List.getElem?_cons_zero, List.getElem?_cons_succ] at cg80 cg81 cg82 cg83 cg84
    go_wp2_with fail
    clear ct0 ct1 ct2 ct3 ct4 ct5 ct6 ct7 ct8 ct9 ct10 ct11 cg70 cg71 cg72 cg73 cg74 cg80 cg81 cg82 cg83 cg84
    refine (nlend_any hq1 hq2 hq3 rfl (fun _ => by have := fit_min HF2.out; omega)).mono ?_
    rintro e wb ⟨v1, v2, A9, c9, rfl, o1, o2, os, hEb⟩
    rw [show part1 (lendB la lb ls true) = p by rw [HU.out.1]; rfl] at o1
    rw [show part2 (lendB la lb ls true) = q by rw [HU.out.1]; rfl] at o2
    rw [show part3 (lendB la lb ls true) = u by rw [HU.out.1]; rfl] at os ⊢
    rw [show (lendB la lb ls true).isSome = true by rw [HU.out.1]; rfl]
    have r1 := o1.pgv hsm1
    have r2 := o2.pgv hsm2
    have r3 := os.sl (by have := HU.out.2.2.len; omega)
    clear o1 o2 os hq1 hq2 hq3
    obtain ⟨iA3, ic3, dA3, dc3, rfl, _, _⟩ := r1.ex
    obtain ⟨iA4, ic4, dA4, dc4, rfl, _, _⟩ := r2.ex
    clear HG7 HG8
    replace HT := Lib.hid (hEb.blk HT.out)
    replace hE := hE.trans hEb
    clear hEb
    have hx := (ext_alloc wb (.cells #[.int .i64 p.kind, .int .i64 p.level, .slice iA3 p.items.length ic3, .slice dA3 p.data.length dc3, .int .i64 p.next] 26)).trans (ext_alloc _ (.cells #[.int .i64 q.kind, .int .i64 q.level, .slice iA4 q.items.length ic4, .slice dA4 q.data.length dc4, .int .i64 q.next] 26))
    have HC := Lib.hid (heap_alloc2_old wb (.cells #[.int .i64 p.kind, .int .i64 p.level, .slice iA3 p.items.length ic3, .slice dA3 p.data.length dc3, .int .i64 p.next] 26) (.cells #[.int .i64 q.kind, .int .i64 q.level, .slice iA4 q.items.length ic4, .slice dA4 q.data.length dc4, .int .i64 q.next] 26))
    have HD := Lib.hid (heap_alloc2_new wb (.cells #[.int .i64 p.kind, .int .i64 p.level, .slice iA3 p.items.length ic3, .slice dA3 p.data.length dc3, .int .i64 p.next] 26) (.cells #[.int .i64 q.kind, .int .i64 q.level, .slice iA4 q.items.length ic4, .slice dA4 q.data.length dc4, .int .i64 q.next] 26))
    replace HT := Lib.hid (hx.blk HT.out)
    replace r1 := r1.ext hx
    replace r2 := r2.ext hx
    replace r3 := r3.ext hx
    replace hE := hE.trans hx
    clear hx
    have ct0 := cell_of_row ((wb.alloc (.cells #[.int .i64 p.kind, .int .i64 p.level, .slice iA3 p.items.length ic3, .slice dA3 p.data.length dc3, .int .i64 p.next] 26)).alloc (.cells #[.int .i64 q.kind, .int .i64 q.level, .slice iA4 q.items.length ic4, .slice dA4 q.data.length dc4, .int .i64 q.next] 26)) w.heap.size 0 _ _ _ HT.out
    have ct1 := cell_of_row ((wb.alloc (.cells #[.int .i64 p.kind, .int .i64 p.level, .slice iA3 p.items.length ic3, .slice dA3 p.data.length dc3, .int .i64 p.next] 26)).alloc (.cells #[.int .i64 q.kind, .int .i64 q.level, .slice iA4 q.items.length ic4, .slice dA4 q.data.length dc4, .int .i64 q.next] 26)) w.heap.size 1 _ _ _ HT.out
    have ct2 := cell_of_row ((wb.alloc (.cells #[.int .i64 p.kind, .int .i64 p.level, .slice iA3 p.items.length ic3, .slice dA3 p.data.length dc3, .int .i64 p.next] 26)).alloc (.cells #[.int .i64 q.kind, .int .i64 q.level, .slice iA4 q.items.length ic4, .slice dA4 q.data.length dc4, .int .i64 q.next] 26)) w.heap.size 2 _ _ _ HT.out
    have ct3 := cell_of_row ((wb.alloc (.cells #[.int .i64 p.kind, .int .i64 p.level, .slice iA3 p.items.length ic3, .slice dA3 p.data.length dc3, .int .i64 p.next] 26)).alloc (.cells #[.int .i64 q.kind, .int .i64 q.level, .slice iA4 q.items.length ic4, .slice dA4 q.data.length dc4, .int .i64 q.next] 26)) w.heap.size 3 _ _ _ HT.out
    have ct4 := cell_of_row ((wb.alloc (.cells #[.int .i64 p.kind, .int .i64 p.level, .slice iA3 p.items.length ic3, .slice dA3 p.data.length dc3, .int .i64 p.next] 26)).alloc (.cells #[.int .i64 q.kind, .int .i64 q.level, .slice iA4 q.items.length ic4, .slice dA4 q.data.length dc4, .int .i64 q.next] 26)) w.heap.size 4 _ _ _ HT.out
    have ct5 := cell_of_row ((wb.alloc (.cells #[.int .i64 p.kind, .int .i64 p.level, .slice iA3 p.items.length ic3, .slice dA3 p.data.length dc3, .int .i64 p.next] 26)).alloc (.cells #[.int .i64 q.kind, .int .i64 q.level, .slice iA4 q.items.length ic4, .slice dA4 q.data.length dc4, .int .i64 q.next] 26)) w.heap.size 5 _ _ _ HT.out
    have ct6 := cell_of_row ((wb.alloc (.cells #[.int .i64 p.kind, .int .i64 p.level, .slice iA3 p.items.length ic3, .slice dA3 p.data.length dc3, .int .i64 p.next] 26)).alloc (.cells #[.int .i64 q.kind, .int .i64 q.level, .slice iA4 q.items.length ic4, .slice dA4 q.data.length dc4, .int .i64 q.next] 26)) w.heap.size 6 _ _ _ HT.out
    have ct7 := cell_of_row ((wb.alloc (.cells #[.int .i64 p.kind, .int .i64 p.level, .slice iA3 p.items.length ic3, .slice dA3 p.data.length dc3, .int .i64 p.next] 26)).alloc (.cells #[.int .i64 q.kind, .int .i64 q.level, .slice iA4 q.items.length ic4, .slice dA4 q.data.length dc4, .int .i64 q.next] 26)) w.heap.size 7 _ _ _ HT.out
    have ct8 := cell_of_row ((wb.alloc (.cells #[.int .i64 p.kind, .int .i64 p.level, .slice iA3 p.items.length ic3, .slice dA3 p.data.length dc3, .int .i64 p.next] 26)).alloc (.cells #[.int .i64 q.kind, .int .i64 q.level, .slice iA4 q.items.length ic4, .slice dA4 q.data.length dc4, .int .i64 q.next] 26)) w.heap.size 8 _ _ _ HT.out
    have ct9 := cell_of_row ((wb.alloc (.cells #[.int .i64 p.kind, .int .i64 p.level, .slice iA3 p.items.length ic3, .slice dA3 p.data.length dc3, .int .i64 p.next] 26)).alloc (.cells #[.int .i64 q.kind, .int .i64 q.level, .slice iA4 q.items.length ic4, .slice dA4 q.data.length dc4, .int .i64 q.next] 26)) w.heap.size 9 _ _ _ HT.out
    have ct10 := cell_of_row ((wb.alloc (.cells #[.int .i64 p.kind, .int .i64 p.level, .slice iA3 p.items.length ic3, .slice dA3 p.data.length dc3, .int .i64 p.next] 26)).alloc (.cells #[.int .i64 q.kind, .int .i64 q.level, .slice iA4 q.items.length ic4, .slice dA4 q.data.length dc4, .int .i64 q.next] 26)) w.heap.size 10 _ _ _ HT.out
    have ct11 := cell_of_row ((wb.alloc (.cells #[.int .i64 p.kind, .int .i64 p.level, .slice iA3 p.items.length ic3, .slice dA3 p.data.length dc3, .int .i64 p.next] 26)).alloc (.cells #[.int .i64 q.kind, .int .i64 q.level, .slice iA4 q.items.length ic4, .slice dA4 q.data.length dc4, .int .i64 q.next] 26)) w.heap.size 11 _ _ _ HT.out
    simp only [List.getElem?_toArray, List.getElem?_cons_zero, List.getElem?_cons_succ] at ct0 ct1 ct2 ct3 ct4 ct5 ct6 ct7 ct8 ct9 ct10 ct11
    go_wp2_with fail
    clear ct0 ct1 ct2 ct3 ct4 ct5 ct6 ct7 ct8 ct9 ct10 ct11
    obtain ⟨b9, h9⟩ : ∃ b, wb.heap.size = b := ⟨_, rfl⟩
    rw [h9] at HC HD ⊢
    clear h9
    refine (eqPage_any r1 (hv1.ext hE)).mono ?_
    rintro e wd ⟨rfl, hEd⟩
    rw [eqPg_self]
    replace HT := Lib.hid (hEd.blk HT.out)
    replace HC := Lib.hid (hEd.blk HC.out)
    replace HD := Lib.hid (hEd.blk HD.out)
    replace r1 := r1.ext hEd
    replace r2 := r2.ext hEd
    replace r3 := r3.ext hEd
    replace hE := hE.trans hEd
    clear hEd
    have ct0 := cell_of_row wd w.heap.size 0 _ _ _ HT.out
    have ct1 := cell_of_row wd w.heap.size 1 _ _ _ HT.out
    have ct2 := cell_of_row wd w.heap.size 2 _ _ _ HT.out
    have ct3 := cell_of_row wd w.heap.size 3 _ _ _ HT.out
    have ct4 := cell_of_row wd w.heap.size 4 _ _ _ HT.out
    have ct5 := cell_of_row wd w.heap.size 5 _ _ _ HT.out
    have ct6 := cell_of_row wd w.heap.size 6 _ _ _ HT.out
    have ct7 := cell_of_row wd w.heap.size 7 _ _ _ HT.out
    have ct8 := cell_of_row wd w.heap.size 8 _ _ _ HT.out
    have ct9 := cell_of_row wd w.heap.size 9 _ _ _ HT.out
    have ct10 := cell_of_row wd w.heap.size 10 _ _ _ HT.out
    have ct11 := cell_of_row wd w.heap.size 11 _ _ _ HT.out
    simp only [List.getElem?_toArray, List.getElem?_cons_zero, List.getElem?_cons_succ] at ct0 ct1 ct2 ct3 ct4 ct5 ct6 ct7 ct8 ct9 ct10 ct11
    have cd0 := cell_of_row wd (b9 + 1) 0 _ _ _ HD.out
    have cd1 := cell_of_row wd (b9 + 1) 1 _ _ _ HD.out
    have cd2 := cell_of_row wd (b9 + 1) 2 _ _ _ HD.out
    have cd3 := cell_of_row wd (b9 + 1) 3 _ _ _ HD.out
    have cd4 := cell_of_row wd (b9 + 1) 4 _ _ _ HD.out
    simp only [List.getElem?_toArray, List.getElem?_cons_zero, List.getElem?_cons_succ] at cd0 cd1 cd2 cd3 cd4
    go_wp2_with fail
    clear ct0 ct1 ct2 ct3 ct4 ct5 ct6 ct7 ct8 ct9 ct10 ct11 cd0 cd1 cd2 cd3 cd4
    refine (eqPage_any r2 (hv2.ext hE)).mono ?_
    rintro e we ⟨rfl, hEe⟩
    rw [eqPg_self]
    replace HT := Lib.hid (hEe.blk HT.out)
    replace HC := Lib.hid (hEe.blk HC.out)
    replace HD := Lib.hid (hEe.blk HD.out)
    replace r1 := r1.ext hEe
    replace r2 := r2.ext hEe
    replace r3 := r3.ext hEe
    replace hE := hE.trans hEe
    clear hEe
    have ct0 := cell_of_row we w.heap.size 0 _ _ _ HT.out
    have ct1 := cell_of_row we w.heap.size 1 _ _ _ HT.out
    have ct2 := cell_of_row we w.heap.size 2 _ _ _ HT.out
    have ct3 := cell_of_row we w.heap.size 3 _ _ _ HT.out
    have ct4 := cell_of_row we w.heap.size 4 _ _ _ HT.out
    have ct5 := cell_of_row we w.heap.size 5 _ _ _ HT.out
    have ct6 := cell_of_row we w.heap.size 6 _ _ _ HT.out
    have ct7 := cell_of_row we w.heap.size 7 _ _ _ HT.out
    have ct8 := cell_of_row we w.heap.size 8 _ _ _ HT.out
    have ct9 := cell_of_row we w.heap.size 9 _ _ _ HT.out
    have ct10 := cell_of_row we w.heap.size 10 _ _ _ HT.out
    have ct11 := cell_of_row we w.heap.size 11 _ _ _ HT.out
    simp only [List.getElem?_toArray, List.getElem?_cons_zero, List.getElem?_cons_succ] at ct0 ct1 ct2 ct3 ct4 ct5 ct6 ct7 ct8 ct9 ct10 ct11
    have cc0 := cell_of_row we b9 0 _ _ _ HC.out
    have cc1 := cell_of_row we b9 1 _ _ _ HC.out
    have cc2 := cell_of_row we b9 2 _ _ _ HC.out
    have cc3 := cell_of_row we b9 3 _ _ _ HC.out
    have cc4 := cell_of_row we b9 4 _ _ _ HC.out
    simp only [List.getElem?_toArray, List.getElem?_cons_zero, List.getElem?_cons_succ] at cc0 cc1 cc2 cc3 cc4
    have cd0 := cell_of_row we (b9 + 1) 0 _ _ _ HD.out
    have cd1 := cell_of_row we (b9 + 1) 1 _ _ _ HD.out
    have cd2 := cell_of_row we (b9 + 1) 2 _ _ _ HD.out
    have cd3 := cell_of_row we (b9 + 1) 3 _ _ _ HD.out
    have cd4 := cell_of_row we (b9 + 1) 4 _ _ _ HD.out
    simp only [List.getElem?_toArray, List.getElem?_cons_zero, List.getElem?_cons_succ] at cd0 cd1 cd2 cd3 cd4
    by_cases hk1 : p.kind = 1
    · have ck1 : (p.kind == 1) = true := by simpa using hk1
      clear hk1
      go_wp2_with fail
      clear ct0 ct1 ct2 ct3 ct4 ct5 ct6 ct7 ct8 ct9 ct10 ct11 cc0 cc1 cc2 cc3 cc4 cd0 cd1 cd2 cd3 cd4
      refine (fits_any r1 r2 r3 rfl).mono ?_
      rintro e wf ⟨z, rfl, hz, hEf⟩
      obtain rfl : z = true := hz.2 HU.out.2.2
      have hEE := hE.trans hEf
      clear hE hEf hz
      go_wp2
      go_ret
      exact ⟨rfl, hEE⟩
    · have ck1 : (p.kind == 1) = false := by simpa using hk1
      obtain rfl : u = sep := HU.out.2.1 hk1
      clear hk1
      go_wp2_with fail
      clear ct0 ct1 ct2 ct3 ct4 ct5 ct6 ct7 ct8 ct9 ct10 ct11 cc0 cc1 cc2 cc3 cc4 cd0 cd1 cd2 cd3 cd4
      refine (eqBytes_any r3 (hs.ext hE)).mono ?_
      rintro e wg ⟨rfl, hEg⟩
      rw [eqB_self]
      replace HT := Lib.hid (hEg.blk HT.out)
      replace HC := Lib.hid (hEg.blk HC.out)
      replace HD := Lib.hid (hEg.blk HD.out)
      replace r1 := r1.ext hEg
      replace r2 := r2.ext hEg
      replace r3 := r3.ext hEg
      replace hE := hE.trans hEg
      clear hEg
      have cc0 := cell_of_row wg b9 0 _ _ _ HC.out
      have cc1 := cell_of_row wg b9 1 _ _ _ HC.out
      have cc2 := cell_of_row wg b9 2 _ _ _ HC.out
      have cc3 := cell_of_row wg b9 3 _ _ _ HC.out
      have cc4 := cell_of_row wg b9 4 _ _ _ HC.out
      simp only [List.getElem?_toArray, List.getElem?_cons_zero, List.getElem?_cons_succ] at cc0 cc1 cc2 cc3 cc4
      have cd0 := cell_of_row wg (b9 + 1) 0 _ _ _ HD.out
      have cd1 := cell_of_row wg (b9 + 1) 1 _ _ _ HD.out
      have cd2 := cell_of_row wg (b9 + 1) 2 _ _ _ HD.out
      have cd3 := cell_of_row wg (b9 + 1) 3 _ _ _ HD.out
      have cd4 := cell_of_row wg (b9 + 1) 4 _ _ _ HD.out
      simp only [List.getElem?_toArray, List.getElem?_cons_zero, List.getElem?_cons_succ] at cd0 cd1 cd2 cd3 cd4
      go_wp2_with fail
      clear cc0 cc1 cc2 cc3 cc4 cd0 cd1 cd2 cd3 cd4
      refine (fits_any r1 r2 r3 rfl).mono ?_
      rintro e wf ⟨z, rfl, hz, hEf⟩
      obtain rfl : z = true := hz.2 HU.out.2.2
      have hEE := hE.trans hEf
      clear hE hEf hz
      go_wp2
      go_ret
      exact ⟨rfl, hEE⟩
  · go_wp2_with fail
    refine gives_false.mono ?_
    rintro e w7 ⟨rfl, hE7⟩
    replace hE := hE.trans hE7
    clear ct0 ct1 ct2 ct3 ct4 ct5 ct6 ct7 ct8 ct9 ct10 ct11
    go_wp2
    go_ret
    exact ⟨rfl, hE⟩
  · have HG3 := Lib.hid (show p.kind = 2 → 3 ≤ givesN p q false from fun _ => by show 3 ≤ q.items.length; omega)
    go_wp2_with fail
    clear ct0 ct1 ct2 ct3 ct4 ct5 ct6 ct7 ct8 ct9 ct10 ct11
    refine gives_false.mono ?_
    rintro e w7 ⟨rfl, hE7⟩
    replace HT := Lib.hid (hE7.blk HT.out)
    replace HG7 := Lib.hid (hE7.blk HG7.out)
    replace HG8 := Lib.hid (hE7.blk HG8.out)
    replace hq1 := hq1.ext hE7
    replace hq2 := hq2.ext hE7
    replace hq3 := hq3.ext hE7
    replace hE := hE.trans hE7
    clear hE7
    have ct0 := cell_of_row w7 w.heap.size 0 _ _ _ HT.out
    have ct1 := cell_of_row w7 w.heap.size 1 _ _ _ HT.out
    have ct2 := cell_of_row w7 w.heap.size 2 _ _ _ HT.out
    have ct3 := cell_of_row w7 w.heap.size 3 _ _ _ HT.out
    have ct4 := cell_of_row w7 w.heap.size 4 _ _ _ HT.out
    have ct5 := cell_of_row w7 w.heap.size 5 _ _ _ HT.out
    have ct6 := cell_of_row w7 w.heap.size 6 _ _ _ HT.out
    have ct7 := cell_of_row w7 w.heap.size 7 _ _ _ HT.out
    have ct8 := cell_of_row w7 w.heap.size 8 _ _ _ HT.out
    have ct9 := cell_of_row w7 w.heap.size 9 _ _ _ HT.out
    have ct10 := cell_of_row w7 w.heap.size 10 _ _ _ HT.out
    have ct11 := cell_of_row w7 w.heap.size 11 _ _ _ HT.out
    simp only [List.getElem?_toArray, List.getElem?_cons_zero, List.getElem?_cons_succ] at ct0 ct1 ct2 ct3 ct4 ct5 ct6 ct7 ct8 ct9 ct10 ct11
    obtain ⟨u, HU⟩ : ∃ u, Hid (lendB la lb ls true = some (p, q, u) ∧ (p.kind ≠ 1 → u = sep) ∧ FitP p q u) := by
      obtain ⟨u, h1, h2, h3⟩ := HLT.out.back HG3.out
      exact ⟨u, Lib.hid ⟨h1, h2, h3⟩⟩
    have HF2 := Lib.hid (HLT.out.fit HG3.out)
    have cg70 := cell_of_row w7 g7 0 _ _ _ HG7.out
    have cg71 := cell_of_row w7 g7 1 _ _ _ HG7.out
    have cg72 := cell_of_row w7 g7 2 _ _ _ HG7.out
    have cg73 := cell_of_row w7 g7 3 _ _ _ HG7.out
    have cg74 := cell_of_row w7 g7 4 _ _ _ HG7.out
    simp only [List.getElem?_toArray, List.getElem?_cons_zero, List.getElem?_cons_succ] at cg70 cg71 cg72 cg73 cg74
    have cg80 := cell_of_row w7 g8 0 _ _ _ HG8.out
    have cg81 := cell_of_row w7 g8 1 _ _ _ HG8.out
    have cg82 := cell_of_row w7 g8 2 _ _ _ HG8.out
    have cg83 := cell_of_row w7 g8 3 _ _ _ HG8.out
    have cg84 := cell_of_row w7 g8 4 _ _ _ HG8.out
    simp only [List.getElem?_toArray, List.getElem?_cons_zero, List.getElem?_cons_succ] at cg80 cg81 cg82 cg83 cg84
    go_wp2_with fail
    clear ct0 ct1 ct2 ct3 ct4 ct5 ct6 ct7 ct8 ct9 ct10 ct11 cg70 cg71 cg72 cg73 cg74 cg80 cg81 cg82 cg83 cg84
    refine (fits_any hq1 hq2 hq3 rfl).mono ?_
    rintro e wa ⟨z, rfl, hz, hEa⟩
    obtain rfl : z = true := hz.2 HF2.out
    clear hz
    replace HT := Lib.hid (hEa.blk HT.out)
    replace HG7 := Lib.hid (hEa.blk HG7.out)
    replace HG8 := Lib.hid (hEa.blk HG8.out)
    replace hq1 := hq1.ext hEa
    replace hq2 := hq2.ext hEa
    replace hq3 := hq3.ext hEa
    replace hE := hE.trans hEa
    clear hEa
    have ct0 := cell_of_row wa w.heap.size 0 _ _ _ HT.out
    have ct1 := cell_of_row wa w.heap.size 1 _ _ _ HT.out
    have ct2 := cell_of_row wa w.heap.size 2 _ _ _ HT.out
    have ct3 := cell_of_row wa w.heap.size 3 _ _ _ HT.out
    have ct4 := cell_of_row wa w.heap.size 4 _ _ _ HT.out
    have ct5 := cell_of_row wa w.heap.size 5 _ _ _ HT.out
    have ct6 := cell_of_row wa w.heap.size 6 _ _ _ HT.out
    have ct7 := cell_of_row wa w.heap.size 7 _ _ _ HT.out
    have ct8 := cell_of_row wa w.heap.size 8 _ _ _ HT.out
    have ct9 := cell_of_row wa w.heap.size 9 _ _ _ HT.out
    have ct10 := cell_of_row wa w.heap.size 10 _ _ _ HT.out
    have ct11 := cell_of_row wa w.heap.size 11 _ _ _ HT.out
    simp only [List.getElem?_toArray, List.getElem?_cons_zero, List.getElem?_cons_succ] at ct0 ct1 ct2 ct3 ct4 ct5 ct6 ct7 ct8 ct9 ct10 ct11
    have cg70 := cell_of_row wa g7 0 _ _ _ HG7.out
    have cg71 := cell_of_row wa g7 1 _ _ _ HG7.out
    have cg72 := cell_of_row wa g7 2 _ _ _ HG7.out
    have cg73 := cell_of_row wa g7 3 _ _ _ HG7.out
    have cg74 := cell_of_row wa g7 4 _ _ _ HG7.out
    simp only [List.getElem?_toArray, List.getElem?_cons_zero, List.getElem?_cons_succ] at cg70 cg71 cg72 cg73 cg74
    have cg80 := cell_of_row wa g8 0 _ _ _ HG8.out
    have cg81 := cell_of_row wa g8 1 _ _ _ HG8.out
    have cg82 := cell_of_row wa g8 2 _ _ _ HG8.out
    have cg83 := cell_of_row wa g8 3 _ _ _ HG8.out
    have cg84 := cell_of_row wa g8 4 _ _ _ HG8.out
    simp only [List.getElem?_toArray, List.getElem?_cons_zero, List.getElem?_cons_succ] at cg80 cg81 cg82 cg83 cg84
    go_wp2_with fail
    clear ct0 ct1 ct2 ct3 ct4 ct5 ct6 ct7 ct8 ct9 ct10 ct11 cg70 cg71 cg72 cg73 cg74 cg80 cg81 cg82 cg83 cg84
    refine (nlend_any hq1 hq2 hq3 rfl (fun _ => by have := fit_min HF2.out; omega)).mono ?_
    rintro e wb ⟨v1, v2, A9, c9, rfl, o1, o2, os, hEb⟩
    rw [show part1 (lendB la lb ls true) = p by rw [HU.out.1]; rfl] at o1
    rw [show part2 (lendB la lb ls true) = q by rw [HU.out.1]; rfl] at o2
    rw [show part3 (lendB la lb ls true) = u by rw [HU.out.1]; rfl] at os ⊢
    rw [show (lendB la lb ls true).isSome = true by rw [HU.out.1]; rfl]
    have r1 := o1.pgv hsm1
    have r2 := o2.pgv hsm2
    have r3 := os.sl (by have := HU.out.2.2.len; omega)
    clear o1 o2 os hq1 hq2 hq3
    obtain ⟨iA3, ic3, dA3, dc3, rfl, _, _⟩ := r1.ex
    obtain ⟨iA4, ic4, dA4, dc4, rfl, _, _⟩ := r2.ex
    clear HG7 HG8
    replace HT := Lib.hid (hEb.blk HT.out)
    replace hE := hE.trans hEb
    clear hEb
    have hx := (ext_alloc wb (.cells #[.int .i64 p.kind, .int .i64 p.level, .slice iA3 p.items.length ic3, .slice dA3 p.data.length dc3, .int .i64 p.next] 26)).trans (ext_alloc _ (.cells #[.int .i64 q.kind, .int .i64 q.level, .slice iA4 q.items.length ic4, .slice dA4 q.data.length dc4, .int .i64 q.next] 26))
    have HC := Lib.hid (heap_alloc2_old wb (.cells #[.int .i64 p.kind, .int .i64 p.level, .slice iA3 p.items.length ic3, .slice dA3 p.data.length dc3, .int .i64 p.next] 26) (.cells #[.int .i64 q.kind, .int .i64 q.level, .slice iA4 q.items.length ic4, .slice dA4 q.data.length dc4, .int .i64 q.next] 26))
    have HD := Lib.hid (heap_alloc2_new wb (.cells #[.int .i64 p.kind, .int .i64 p.level, .slice iA3 p.items.length ic3, .slice dA3 p.data.length dc3, .int .i64 p.next] 26) (.cells #[.int .i64 q.kind, .int .i64 q.level, .slice iA4 q.items.length ic4, .slice dA4 q.data.length dc4, .int .i64 q.next] 26))
    replace HT := Lib.hid (hx.blk HT.out)
    replace r1 := r1.ext hx
    replace r2 := r2.ext hx
    replace r3 := r3.ext hx
    replace hE := hE.trans hx
    clear hx
    have ct0 := cell_of_row ((wb.alloc (.cells #[.int .i64 p.kind, .int .i64 p.level, .slice iA3 p.items.length ic3, .slice dA3 p.data.length dc3, .int .i64 p.next] 26)).alloc (.cells #[.int .i64 q.kind, .int .i64 q.level, .slice iA4 q.items.length ic4, .slice dA4 q.data.length dc4, .int .i64 q.next] 26)) w.heap.size 0 _ _ _ HT.out
    have ct1 := cell_of_row ((wb.alloc (.cells #[.int .i64 p.kind, .int .i64 p.level, .slice iA3 p.items.length ic3, .slice dA3 p.data.length dc3, .int .i64 p.next] 26)).alloc (.cells #[.int .i64 q.kind, .int .i64 q.level, .slice iA4 q.items.length ic4, .slice dA4 q.data.length dc4, .int .i64 q.next] 26)) w.heap.size 1 _ _ _ HT.out
    have ct2 := cell_of_row ((wb.alloc (.cells #[.int .i64 p.kind, .int .i64 p.level, .slice iA3 p.items.length ic3, .slice dA3 p.data.length dc3, .int .i64 p.next] 26)).alloc (.cells #[.int .i64 q.kind, .int .i64 q.level, .slice iA4 q.items.length ic4, .slice dA4 q.data.length dc4, .int .i64 q.next] 26)) w.heap.size 2 _ _ _ HT.out
    have ct3 := cell_of_row ((wb.alloc (.cells #[.int .i64 p.kind, .int .i64 p.level, .slice iA3 p.items.length ic3, .slice dA3 p.data.length dc3, .int .i64 p.next] 26)).alloc (.cells #[.int .i64 q.kind, .int .i64 q.level, .slice iA4 q.items.length ic4, .slice dA4 q.data.length dc4, .int .i64 q.next] 26)) w.heap.size 3 _ _ _ HT.out
    have ct4 := cell_of_row ((wb.alloc (.cells #[.int .i64 p.kind, .int .i64 p.level, .slice iA3 p.items.length ic3, .slice dA3 p.data.length dc3, .int .i64 p.next] 26)).alloc (.cells #[.int .i64 q.kind, .int .i64 q.level, .slice iA4 q.items.length ic4, .slice dA4 q.data.length dc4, .int .i64 q.next] 26)) w.heap.size 4 _ _ _ HT.out
    have ct5 := cell_of_row ((wb.alloc (.cells #[.int .i64 p.kind, .int .i64 p.level, .slice iA3 p.items.length ic3, .slice dA3 p.data.length dc3, .int .i64 p.next] 26)).alloc (.cells #[.int .i64 q.kind, .int .i64 q.level, .slice iA4 q.items.length ic4, .slice dA4 q.data.length dc4, .int .i64 q.next] 26)) w.heap.size 5 _ _ _ HT.out
    have ct6 := cell_of_row ((wb.alloc (.cells #[.int .i64 p.kind, .int .i64 p.level, .slice iA3 p.items.length ic3, .slice dA3 p.data.length dc3, .int .i64 p.next] 26)).alloc (.cells #[.int .i64 q.kind, .int .i64 q.level, .slice iA4 q.items.length ic4, .slice dA4 q.data.length dc4, .int .i64 q.next] 26)) w.heap.size 6 _ _ _ HT.out
    have ct7 := cell_of_row ((wb.alloc (.cells #[.int .i64 p.kind, .int .i64 p.level, .slice iA3 p.items.length ic3, .slice dA3 p.data.length dc3, .int .i64 p.next] 26)).alloc (.cells #[.int .i64 q.kind, .int .i64 q.level, .slice iA4 q.items.length ic4, .slice dA4 q.data.length dc4, .int .i64 q.next] 26)) w.heap.size 7 _ _ _ HT.out
    have ct8 := cell_of_row ((wb.alloc (.cells #[.int .i64 p.kind, .int .i64 p.level, .slice iA3 p.items.length ic3, .slice dA3 p.data.length dc3, .int .i64 p.next] 26)).alloc (.cells #[.int .i64 q.kind, .int .i64 q.level, .slice iA4 q.items.length ic4, .slice dA4 q.data.length dc4, .int .i64 q.next] 26)) w.heap.size 8 _ _ _ HT.out
    have ct9 := cell_of_row ((wb.alloc (.cells #[.int .i64 p.kind, .int .i64 p.level, .slice iA3 p.items.length ic3, .slice dA3 p.data.length dc3, .int .i64 p.next] 26)).alloc (.cells #[.int .i64 q.kind, .int .i64 q.level, .slice iA4 q.items.length ic4, .slice dA4 q.data.length dc4, .int .i64 q.next] 26)) w.heap.size 9 _ _ _ HT.out
    have ct10 := cell_of_row ((wb.alloc (.cells #[.int .i64 p.kind, .int .i64 p.level, .slice iA3 p.items.length ic3, .slice dA3 p.data.length dc3, .int .i64 p.next] 26)).alloc (.cells #[.int .i64 q.kind, .int .i64 q.level, .slice iA4 q.items.length ic4, .slice dA4 q.data.length dc4, .int .i64 q.next] 26)) w.heap.size 10 _ _ _ HT.out
    have ct11 := cell_of_row ((wb.alloc (.cells #[.int .i64 p.kind, .int .i64 p.level, .slice iA3 p.items.length ic3, .slice dA3 p.data.length dc3, .int .i64 p.next] 26)).alloc (.cells #[.int .i64 q.kind, .int .i64 q.level, .slice iA4 q.items.length ic4, .slice dA4 q.data.length dc4, .int .i64 q.next] 26)) w.heap.size 11 _ _ _ HT.out
    simp only [List.getElem?_toArray, List.getElem?_cons_zero, List.getElem?_cons_succ] at ct0 ct1 ct2 ct3 ct4 ct5 ct6 ct7 ct8 ct9 ct10 ct11
    go_wp2_with fail
    clear ct0 ct1 ct2 ct3 ct4 ct5 ct6 ct7 ct8 ct9 ct10 ct11
    obtain ⟨b9, h9⟩ : ∃ b, wb.heap.size = b := ⟨_, rfl⟩
    rw [h9] at HC HD ⊢
    clear h9
    refine (eqPage_any r1 (hv1.ext hE)).mono ?_
    rintro e wd ⟨rfl, hEd⟩
    rw [eqPg_self]
    replace HT := Lib.hid (hEd.blk HT.out)
    replace HC := Lib.hid (hEd.blk HC.out)
    replace HD := Lib.hid (hEd.blk HD.out)
    replace r1 := r1.ext hEd
    replace r2 := r2.ext hEd
    replace r3 := r3.ext hEd
    replace hE := hE.trans hEd
    clear hEd
    have ct0 := cell_of_row wd w.heap.size 0 _ _ _ HT.out
    have ct1 := cell_of_row wd w.heap.size 1 _ _ _ HT.out
    have ct2 := cell_of_row wd w.heap.size 2 _ _ _ HT.out
    have ct3 := cell_of_row wd w.heap.size 3 _ _ _ HT.out
    have ct4 := cell_of_row wd w.heap.size 4 _ _ _ HT.out
    have ct5 := cell_of_row wd w.heap.size 5 _ _ _ HT.out
    have ct6 := cell_of_row wd w.heap.size 6 _ _ _ HT.out
    have ct7 := cell_of_row wd w.heap.size 7 _ _ _ HT.out
    have ct8 := cell_of_row wd w.heap.size 8 _ _ _ HT.out
    have ct9 := cell_of_row wd w.heap.size 9 _ _ _ HT.out
    have ct10 := cell_of_row wd w.heap.size 10 _ _ _ HT.out
    have ct11 := cell_of_row wd w.heap.size 11 _ _ _ HT.out
    simp only [List.getElem?_toArray, List.getElem?_cons_zero, List.getElem?_cons_succ] at ct0 ct1 ct2 ct3 ct4 ct5 ct6 ct7 ct8 ct9 ct10 ct11
    have cd0 := cell_of_row wd (b9 + 1) 0 _ _ _ HD.out
    have cd1 := cell_of_row wd (b9 + 1) 1 _ _ _ HD.out
    have cd2 := cell_of_row wd (b9 + 1) 2 _ _ _ HD.out
    have cd3 := cell_of_row wd (b9 + 1) 3 _ _ _ HD.out
    have cd4 := cell_of_row wd (b9 + 1) 4 _ _ _ HD.out
    simp only [List.getElem?_toArray, List.getElem?_cons_zero, List.getElem?_cons_succ] at cd0 cd1 cd2 cd3 cd4
    go_wp2_with fail
    clear ct0 ct1 ct2 ct3 ct4 ct5 ct6 ct7 ct8 ct9 ct10 ct11 cd0 cd1 cd2 cd3 cd4
    refine (eqPage_any r2 (hv2.ext hE)).mono ?_
    rintro e we ⟨rfl, hEe⟩
    rw [eqPg_self]
    replace HT := Lib.hid (hEe.blk HT.out)
    replace HC := Lib.hid (hEe.blk HC.out)
    replace HD := Lib.hid (hEe.blk HD.out)
    replace r1 := r1.ext hEe
    replace r2 := r2.ext hEe
    replace r3 := r3.ext hEe
    replace hE := hE.trans hEe
    clear hEe
    have ct0 := cell_of_row we w.heap.size 0 _ _ _ HT.out
    have ct1 := cell_of_row we w.heap.size 1 _ _ _ HT.out
    have ct2 := cell_of_row we w.heap.size 2 _ _ _ HT.out
    have ct3 := cell_of_row we w.heap.size 3 _ _ _ HT.out
    have ct4 := cell_of_row we w.heap.size 4 _ _ _ HT.out
    have ct5 := cell_of_row we w.heap.size 5 _ _ _ HT.out
    have ct6 := cell_of_row we w.heap.size 6 _ _ _ HT.out
    have ct7 := cell_of_row we w.heap.size 7 _ _ _ HT.out
    have ct8 := cell_of_row we w.heap.size 8 _ _ _ HT.out
    have ct9 := cell_of_row we w.heap.size 9 _ _ _ HT.out
    have ct10 := cell_of_row we w.heap.size 10 _ _ _ HT.out
    have ct11 := cell_of_row we w.heap.size 11 _ _ _ HT.out
    simp only [List.getElem?_toArray, List.getElem?_cons_zero, List.getElem?_cons_succ] at ct0 ct1 ct2 ct3 ct4 ct5 ct6 ct7 ct8 ct9 ct10 ct11
    have cc0 := cell_of_row we b9 0 _ _ _ HC.out
    have cc1 := cell_of_row we b9 1 _ _ _ HC.out
    have cc2 := cell_of_row we b9 2 _ _ _ HC.out
    have cc3 := cell_of_row we b9 3 _ _ _ HC.out
    have cc4 := cell_of_row we b9 4 _ _ _ HC.out
    simp only [List.getElem?_toArray, List.getElem?_cons_zero, List.getElem?_cons_succ] at cc0 cc1 cc2 cc3 cc4
    have cd0 := cell_of_row we (b9 + 1) 0 _ _ _ HD.out
    have cd1 := cell_of_row we (b9 + 1) 1 _ _ _ HD.out
    have cd2 := cell_of_row we (b9 + 1) 2 _ _ _ HD.out
    have cd3 := cell_of_row we (b9 + 1) 3 _ _ _ HD.out
    have cd4 := cell_of_row we (b9 + 1) 4 _ _ _ HD.out
    simp only [List.getElem?_toArray, List.getElem?_cons_zero, List.getElem?_cons_succ] at cd0 cd1 cd2 cd3 cd4
    by_cases hk1 : p.kind = 1
    · have ck1 : (p.kind == 1) = true := by simpa using hk1
      clear hk1
      go_wp2_with fail
      clear ct0 ct1 ct2 ct3 ct4 ct5 ct6 ct7 ct8 ct9 ct10 ct11 cc0 cc1 cc2 cc3 cc4 cd0 cd1 cd2 cd3 cd4
      refine (fits_any r1 r2 r3 rfl).mono ?_
      rintro e wf ⟨z, rfl, hz, hEf⟩
      obtain rfl : z = true := hz.2 HU.out.2.2
      have hEE := hE.trans hEf
      clear hE hEf hz
      go_wp2
      go_ret
      exact ⟨rfl, hEE⟩
    · have ck1 : (p.kind == 1) = false := by simpa using hk1
      obtain rfl : u = sep := HU.out.2.1 hk1
      clear hk1
      go_wp2_with fail
      clear ct0 ct1 ct2 ct3 ct4 ct5 ct6 ct7 ct8 ct9 ct10 ct11 cc0 cc1 cc2 cc3 cc4 cd0 cd1 cd2 cd3 cd4
      refine (eqBytes_any r3 (hs.ext hE)).mono ?_
      rintro e wg ⟨rfl, hEg⟩
      rw [eqB_self]
      replace HT := Lib.hid (hEg.blk HT.out)
      replace HC := Lib.hid (hEg.blk HC.out)
      replace HD := Lib.hid (hEg.blk HD.out)
      replace r1 := r1.ext hEg
      replace r2 := r2.ext hEg
      replace r3 := r3.ext hEg
      replace hE := hE.trans hEg
      clear hEg
      have cc0 := cell_of_row wg b9 0 _ _ _ HC.out
      have cc1 := cell_of_row wg b9 1 _ _ _ HC.out
      have cc2 := cell_of_row wg b9 2 _ _ _ HC.out
      have cc3 := cell_of_row wg b9 3 _ _ _ HC.out
      have cc4 := cell_of_row wg b9 4 _ _ _ HC.out
      simp only [List.getElem?_toArray, List.getElem?_cons_zero, List.getElem?_cons_succ] at cc0 cc1 cc2 cc3 cc4
      have cd0 := cell_of_row wg (b9 + 1) 0 _ _ _ HD.out
      have cd1 := cell_of_row wg (b9 + 1) 1 _ _ _ HD.out
      have cd2 := cell_of_row wg (b9 + 1) 2 _ _ _ HD.out
      have cd3 := cell_of_row wg (b9 + 1) 3 _ _ _ HD.out
      have cd4 := cell_of_row wg (b9 + 1) 4 _ _ _ HD.out
      simp only [List.getElem?_toArray, List.getElem?_cons_zero, List.getElem?_cons_succ] at cd0 cd1 cd2 cd3 cd4
      go_wp2_with fail
      clear cc0 cc1 cc2 cc3 cc4 cd0 cd1 cd2 cd3 cd4
      refine (fits_any r1 r2 r3 rfl).mono ?_
      rintro e wf ⟨z, rfl, hz, hEf⟩
      obtain rfl : z = true := hz.2 HU.out.2.2
      have hEE := hE.trans hEf
      clear hE hEf hz
      go_wp2
      go_ret
      exact ⟨rfl, hEE⟩
theorem returns_any {v : Value} {p q : Pg} {sep : List UInt8} {toR : Bool} {w : World} (hv : TwoV w v p q sep toR) :
    Calls Try.prog 9 #[v] w fun e w' => e = .returned (.bool true) ∧ Ext w w' := by
  cases toR
  · exact returns_false hv
  · exact returns_true hv
end Go.Proofs.Ytjjbckdiojleeaa
