/- The walk of NodeWays. No condition but that what comes in lies in memory. -/
import Derived.Test.YtjjbckdiojleeaaFits
import Derived.Test.YtjjbckdiojleeaaLead
import Derived.Test.YtjjbckdiojleeaaLentw
namespace Go.Proofs.Ytjjbckdiojleeaa
set_option linter.unusedVariables false
open Go.RowKit Go.Proofs
structure SmallL (a b : Pg) (s : List UInt8) : Prop where
  a : PSmall a
  b : PSmall b
  c : s.length ≤ 140737488355328
set_option maxRecDepth 100000 in
set_option maxHeartbeats 8000000 in
theorem ways_any {v : Value} {p q : Pg} {sep key : List UInt8} {toR : Bool} {B : Option Addr} {d : Nat} {w : World} (hv : TwoV w v p q sep toR) (hk : Sl w B d key) :
    Calls Try.prog 10 #[v, .slice B key.length d] w fun e w' => e = .returned (.bool true) ∧ Ext w w' := by
  obtain ⟨iA, ic, dA, dc, jA, jc, eA, ec, sA, sc, rfl, hi, hd, hj, hc, hs, hpl, hql⟩ := hv.ex
  have hv1 : PgV w (.agg #[.int .i64 p.kind, .int .i64 p.level, .slice iA p.items.length ic, .slice dA p.data.length dc, .int .i64 p.next]) p := ⟨iA, ic, dA, dc, rfl, hi, hd⟩
  have hv2 : PgV w (.agg #[.int .i64 q.kind, .int .i64 q.level, .slice jA q.items.length jc, .slice eA q.data.length ec, .int .i64 q.next]) q := ⟨jA, jc, eA, ec, rfl, hj, hc⟩
  have hsm1 := hv1.small
  have hsm2 := hv2.small
  have hsl := hs.len
  clear hv hi hd hj hc
  have HT := Lib.hid (heap_alloc_new w (.cells #[.int .i64 p.kind, .int .i64 p.level, .slice iA p.items.length ic, .slice dA p.data.length dc, .int .i64 p.next, .int .i64 q.kind, .int .i64 q.level, .slice jA q.items.length jc, .slice eA q.data.length ec, .int .i64 q.next, .slice sA sep.length sc, .bool toR] 40))
  have hE := ext_alloc w (.cells #[.int .i64 p.kind, .int .i64 p.level, .slice iA p.items.length ic, .slice dA p.data.length dc, .int .i64 p.next, .int .i64 q.kind, .int .i64 q.level, .slice jA q.items.length jc, .slice eA q.data.length ec, .int .i64 q.next, .slice sA sep.length sc, .bool toR] 40)
  have hlm0 : lendOk p q toR = true → p.items.length + q.items.length ≤ 2199023255552 := lend_bound hpl hql
  have hlm : Small3 (lendB p q sep toR) := by
    by_cases h : lendOk p q toR = true
    · exact lend_small hsm1 hsm2 hsl (hlm0 h)
    · rw [show lendB p q sep toR = none by unfold lendB; rw [if_neg h]]
      exact Small3.none_
  obtain ⟨lo, hlo⟩ : ∃ o, lendB p q sep toR = o := ⟨_, rfl⟩
  rw [hlo] at hlm
  have HLO := Lib.hid hlo
  obtain ⟨la, hla⟩ : ∃ x, part1 lo = x := ⟨_, rfl⟩
  obtain ⟨lb, hlb⟩ : ∃ x, part2 lo = x := ⟨_, rfl⟩
  obtain ⟨ls, hls⟩ : ∃ x, part3 lo = x := ⟨_, rfl⟩
  obtain ⟨lz, hlz⟩ : ∃ x, lo.isSome = x := ⟨_, rfl⟩
  have HLA := Lib.hid (show part1 (lendB p q sep toR) = la by rw [hlo]; exact hla)
  have HLB := Lib.hid (show part2 (lendB p q sep toR) = lb by rw [hlo]; exact hlb)
  have HLS := Lib.hid (show part3 (lendB p q sep toR) = ls by rw [hlo]; exact hls)
  have HLZ := Lib.hid (show (lendB p q sep toR).isSome = lz by rw [hlo]; exact hlz)
  have HLS3 := Lib.hid hlm
  have hlm : SmallL la lb ls := ⟨hla ▸ hlm.a, hlb ▸ hlm.b, hls ▸ hlm.c⟩
  clear hlo hla hlb hls hlz hlm0 HLS3
  have hjm := join_small hsm1 hsm2 hsl
  obtain ⟨pj, hpj⟩ : ∃ x, (joinB p q sep).1 = x := ⟨_, rfl⟩
  obtain ⟨jz, hjz⟩ : ∃ x, (joinB p q sep).2 = x := ⟨_, rfl⟩
  rw [hpj] at hjm
  have HJA := Lib.hid hpj
  have HJZ := Lib.hid hjz
  clear hpj hjz
  have hkl := hk.len
  go_enter Try.func10, Try.ntmps10
  go_wp2_with fail
  refine works_any.mono ?_
  rintro e w1 ⟨rfl, hE1⟩
  replace HT := Lib.hid (hE1.blk HT.out)
  replace hE := hE.trans hE1
  clear hE1
  have ct0 := cell_of_row w1 w.heap.size 0 _ _ _ HT.out
  have ct1 := cell_of_row w1 w.heap.size 1 _ _ _ HT.out
  have ct2 := cell_of_row w1 w.heap.size 2 _ _ _ HT.out
  have ct3 := cell_of_row w1 w.heap.size 3 _ _ _ HT.out
  have ct4 := cell_of_row w1 w.heap.size 4 _ _ _ HT.out
  have ct5 := cell_of_row w1 w.heap.size 5 _ _ _ HT.out
  have ct6 := cell_of_row w1 w.heap.size 6 _ _ _ HT.out
  have ct7 := cell_of_row w1 w.heap.size 7 _ _ _ HT.out
  have ct8 := cell_of_row w1 w.heap.size 8 _ _ _ HT.out
  have ct9 := cell_of_row w1 w.heap.size 9 _ _ _ HT.out
  have ct10 := cell_of_row w1 w.heap.size 10 _ _ _ HT.out
  have ct11 := cell_of_row w1 w.heap.size 11 _ _ _ HT.out
  simp only [List.getElem?_toArray, List.getElem?_cons_zero, List.getElem?_cons_succ] at ct0 ct1 ct2 ct3 ct4 ct5 ct6 ct7 ct8 ct9 ct10 ct11
  go_wp2_with fail
  clear ct0 ct1 ct2 ct3 ct4 ct5 ct6 ct7 ct8 ct9 ct10 ct11
  refine (fits_any (hv1.ext hE) (hv2.ext hE) (hs.ext hE) rfl).mono ?_
  rintro e w2 ⟨fz, rfl, hfz, hE2⟩
  have HFZ := Lib.hid hfz
  replace HT := Lib.hid (hE2.blk HT.out)
  replace hE := hE.trans hE2
  clear hE2 hfz
  cases fz
  · go_wp2
    go_ret
    exact ⟨rfl, hE⟩
  have HF := Lib.hid (HFZ.out.1 rfl)
  clear HFZ
  by_cases hkk : 1 ≤ key.length ∧ key.length ≤ 24
  rotate_left
  · have hcs : (key.length : Int) < 1 ∨ ((1 : Int) ≤ key.length ∧ (24 : Int) < key.length) := by omega
    clear hkk
    rcases hcs with l1 | ⟨l1, l2⟩
    all_goals
      go_wp2
      go_ret
      exact ⟨rfl, hE⟩
  have k1 : (1 : Int) ≤ key.length := by omega
  have k2 : (key.length : Int) ≤ 24 := by omega
  clear hkk
  have HJL := Lib.hid (join_law HF.out)
  have HFI := Lib.hid (fun h => found_index (k := key) HF.out h)
  have HFL := Lib.hid (fun a b s h => found_lent (k := key) (toR := toR) (a := a) (b := b) (s := s) HF.out h)
  obtain ⟨fi, hfi⟩ : ∃ x, (foundB p q sep key).1 = x := ⟨_, rfl⟩
  obtain ⟨fh, hfh⟩ : ∃ x, (foundB p q sep key).2 = x := ⟨_, rfl⟩
  have HFI1 := Lib.hid hfi
  have HFH := Lib.hid hfh
  clear hfi hfh
  have ct0 := cell_of_row w2 w.heap.size 0 _ _ _ HT.out
  have ct1 := cell_of_row w2 w.heap.size 1 _ _ _ HT.out
  have ct2 := cell_of_row w2 w.heap.size 2 _ _ _ HT.out
  have ct3 := cell_of_row w2 w.heap.size 3 _ _ _ HT.out
  have ct4 := cell_of_row w2 w.heap.size 4 _ _ _ HT.out
  have ct5 := cell_of_row w2 w.heap.size 5 _ _ _ HT.out
  have ct6 := cell_of_row w2 w.heap.size 6 _ _ _ HT.out
  have ct7 := cell_of_row w2 w.heap.size 7 _ _ _ HT.out
  have ct8 := cell_of_row w2 w.heap.size 8 _ _ _ HT.out
  have ct9 := cell_of_row w2 w.heap.size 9 _ _ _ HT.out
  have ct10 := cell_of_row w2 w.heap.size 10 _ _ _ HT.out
  have ct11 := cell_of_row w2 w.heap.size 11 _ _ _ HT.out
  simp only [List.getElem?_toArray, List.getElem?_cons_zero, List.getElem?_cons_succ] at ct0 ct1 ct2 ct3 ct4 ct5 ct6 ct7 ct8 ct9 ct10 ct11
  go_wp2_with fail
  clear ct0 ct1 ct2 ct3 ct4 ct5 ct6 ct7 ct8 ct9 ct10 ct11
  refine (found_any (hv1.ext hE) (hv2.ext hE) (hs.ext hE) rfl (hk.ext hE) rfl).mono ?_
  rintro e w3 ⟨u, rfl, hU, hE3⟩
  rw [HFI1.out] at hU
  rw [HFH.out]
  obtain ⟨kA5, kc5, vA5, vc5, rfl, hU1, hU2⟩ := hU.ex
  clear hU k1 k2
  replace HT := Lib.hid (hE3.blk HT.out)
  replace hE := hE.trans hE3
  clear hE3
  have hx := ext_alloc w3 (.cells #[.slice kA5 fi.key.length kc5, .slice vA5 fi.val.length vc5, .int .i64 fi.ch, .int .i64 fi.sz] 51)
  have HI := Lib.hid (heap_alloc_new w3 (.cells #[.slice kA5 fi.key.length kc5, .slice vA5 fi.val.length vc5, .int .i64 fi.ch, .int .i64 fi.sz] 51))
  replace HT := Lib.hid (hx.blk HT.out)
  replace hU1 := hU1.ext hx
  replace hU2 := hU2.ext hx
  replace hE := hE.trans hx
  clear hx
  have ct0 := cell_of_row (w3.alloc (.cells #[.slice kA5 fi.key.length kc5, .slice vA5 fi.val.length vc5, .int .i64 fi.ch, .int .i64 fi.sz] 51)) w.heap.size 0 _ _ _ HT.out
  have ct1 := cell_of_row (w3.alloc (.cells #[.slice kA5 fi.key.length kc5, .slice vA5 fi.val.length vc5, .int .i64 fi.ch, .int .i64 fi.sz] 51)) w.heap.size 1 _ _ _ HT.out
  have ct2 := cell_of_row (w3.alloc (.cells #[.slice kA5 fi.key.length kc5, .slice vA5 fi.val.length vc5, .int .i64 fi.ch, .int .i64 fi.sz] 51)) w.heap.size 2 _ _ _ HT.out
  have ct3 := cell_of_row (w3.alloc (.cells #[.slice kA5 fi.key.length kc5, .slice vA5 fi.val.length vc5, .int .i64 fi.ch, .int .i64 fi.sz] 51)) w.heap.size 3 _ _ _ HT.out
  have ct4 := cell_of_row (w3.alloc (.cells #[.slice kA5 fi.key.length kc5, .slice vA5 fi.val.length vc5, .int .i64 fi.ch, .int .i64 fi.sz] 51)) w.heap.size 4 _ _ _ HT.out
  have ct5 := cell_of_row (w3.alloc (.cells #[.slice kA5 fi.key.length kc5, .slice vA5 fi.val.length vc5, .int .i64 fi.ch, .int .i64 fi.sz] 51)) w.heap.size 5 _ _ _ HT.out
  have ct6 := cell_of_row (w3.alloc (.cells #[.slice kA5 fi.key.length kc5, .slice vA5 fi.val.length vc5, .int .i64 fi.ch, .int .i64 fi.sz] 51)) w.heap.size 6 _ _ _ HT.out
  have ct7 := cell_of_row (w3.alloc (.cells #[.slice kA5 fi.key.length kc5, .slice vA5 fi.val.length vc5, .int .i64 fi.ch, .int .i64 fi.sz] 51)) w.heap.size 7 _ _ _ HT.out
  have ct8 := cell_of_row (w3.alloc (.cells #[.slice kA5 fi.key.length kc5, .slice vA5 fi.val.length vc5, .int .i64 fi.ch, .int .i64 fi.sz] 51)) w.heap.size 8 _ _ _ HT.out
  have ct9 := cell_of_row (w3.alloc (.cells #[.slice kA5 fi.key.length kc5, .slice vA5 fi.val.length vc5, .int .i64 fi.ch, .int .i64 fi.sz] 51)) w.heap.size 9 _ _ _ HT.out
  have ct10 := cell_of_row (w3.alloc (.cells #[.slice kA5 fi.key.length kc5, .slice vA5 fi.val.length vc5, .int .i64 fi.ch, .int .i64 fi.sz] 51)) w.heap.size 10 _ _ _ HT.out
  have ct11 := cell_of_row (w3.alloc (.cells #[.slice kA5 fi.key.length kc5, .slice vA5 fi.val.length vc5, .int .i64 fi.ch, .int .i64 fi.sz] 51)) w.heap.size 11 _ _ _ HT.out
  simp only [List.getElem?_toArray, List.getElem?_cons_zero, List.getElem?_cons_succ] at ct0 ct1 ct2 ct3 ct4 ct5 ct6 ct7 ct8 ct9 ct10 ct11
  have hcs : (p.kind == 2) = false ∨ ((p.kind == 2) = true ∧ fh = true) := by
    cases h : p.kind == 2
    · exact .inl rfl
    · exact .inr ⟨rfl, by rw [← HFH.out]; exact HFI.out (by simpa using h)⟩
  obtain ⟨b5, h5⟩ : ∃ b, w3.heap.size = b := ⟨_, rfl⟩
  rw [h5] at HI
  rcases hcs with c1 | ⟨c1, rfl⟩
  all_goals
    go_wp2_with fail
    clear ct0 ct1 ct2 ct3 ct4 ct5 ct6 ct7 ct8 ct9 ct10 ct11
    refine wp_cut (fun W => Ext w W ∧ W.heap[w.heap.size]? = some (.cells #[.int .i64 p.kind, .int .i64 p.level, .slice iA p.items.length ic, .slice dA p.data.length dc, .int .i64 p.next, .int .i64 q.kind, .int .i64 q.level, .slice jA q.items.length jc, .slice eA q.data.length ec, .int .i64 q.next, .slice sA sep.length sc, .bool toR] 40) ∧ W.heap[b5]? = some (.cells #[.slice kA5 fi.key.length kc5, .slice vA5 fi.val.length vc5, .int .i64 fi.ch, .int .i64 fi.sz] 51) ∧ Sl W kA5 kc5 fi.key ∧ Sl W vA5 vc5 fi.val) ⟨hE, HT.out, HI.out, hU1, hU2⟩ ?_
    clear hE HT HI hU1 hU2 h5
    rintro w4 ⟨hE, hT, hI, hU1, hU2⟩
    have HT := Lib.hid hT
    have HI := Lib.hid hI
    clear hT hI
    have hw0 : w.heap.size < w4.heap.size := (Array.getElem?_eq_some_iff.1 HT.out).1
    refine wp_region_rg (Exk (PgBlk w4.heap.size)) (rel_exk _) (fun _ => True) [0, 1, 2, 3, 4, 5, 6, 7, 8, 9, 10, 11, 12, 13, 14, 15] (fun i => match i with
      | 2 => some fun V v w' => PgO w4.heap.size w' v p
      | 5 => some fun V v w' => PgO w4.heap.size w' v q
      | 8 => some fun V v w' => SOwn 5 w4.heap.size sep v w'
      | 9 => some fun V => JoinIn w4.heap.size pj jz
      | 13 => some fun V => PgCell w4.heap.size
      | _ => none) (fun i => match i with
      | 14 => some fun V _ => StoredAt w4.heap.size (comp (V 9) 0) (V 13)
      | _ => none) (fun _ => false) (by kernel_rfl) (by kernel_rfl) (fun _ _ h he => trivial) trivial (fun W N hW hF0 hN => ?_)
    have hEW : Exk (PgBlk w4.heap.size) w4 W := Exk.of_ext hW
    have hXb : ∀ w', Exk (PgBlk w4.heap.size) W w' → Ext w4 w' := fun w' h => (Exk.trans hEW h).x.to_ext (Below.refl _ _) (fun k _ hk => hk.1)
    have hX : ∀ w', Exk (PgBlk w4.heap.size) W w' → Ext w w' := fun w' h => hE.trans (hXb w' h)
    have t0 : ∀ w', Exk (PgBlk w4.heap.size) w4 w' → w'.cell? ⟨w.heap.size, 0, none⟩ = some (.int .i64 p.kind) := fun w' h => cell_of_row _ _ _ _ _ _ (h.x.blk HT.out (PgBlk.notLt (by omega)))
    have t1 : ∀ w', Exk (PgBlk w4.heap.size) w4 w' → w'.cell? ⟨w.heap.size, 1, none⟩ = some (.int .i64 p.level) := fun w' h => cell_of_row _ _ _ _ _ _ (h.x.blk HT.out (PgBlk.notLt (by omega)))
    have t2 : ∀ w', Exk (PgBlk w4.heap.size) w4 w' → w'.cell? ⟨w.heap.size, 2, none⟩ = some (.slice iA p.items.length ic) := fun w' h => cell_of_row _ _ _ _ _ _ (h.x.blk HT.out (PgBlk.notLt (by omega)))
    have t3 : ∀ w', Exk (PgBlk w4.heap.size) w4 w' → w'.cell? ⟨w.heap.size, 3, none⟩ = some (.slice dA p.data.length dc) := fun w' h => cell_of_row _ _ _ _ _ _ (h.x.blk HT.out (PgBlk.notLt (by omega)))
    have t4 : ∀ w', Exk (PgBlk w4.heap.size) w4 w' → w'.cell? ⟨w.heap.size, 4, none⟩ = some (.int .i64 p.next) := fun w' h => cell_of_row _ _ _ _ _ _ (h.x.blk HT.out (PgBlk.notLt (by omega)))
    have t5 : ∀ w', Exk (PgBlk w4.heap.size) w4 w' → w'.cell? ⟨w.heap.size, 5, none⟩ = some (.int .i64 q.kind) := fun w' h => cell_of_row _ _ _ _ _ _ (h.x.blk HT.out (PgBlk.notLt (by omega)))
    have t6 : ∀ w', Exk (PgBlk w4.heap.size) w4 w' → w'.cell? ⟨w.heap.size, 6, none⟩ = some (.int .i64 q.level) := fun w' h => cell_of_row _ _ _ _ _ _ (h.x.blk HT.out (PgBlk.notLt (by omega)))
    have t7 : ∀ w', Exk (PgBlk w4.heap.size) w4 w' → w'.cell? ⟨w.heap.size, 7, none⟩ = some (.slice jA q.items.length jc) := fun w' h => cell_of_row _ _ _ _ _ _ (h.x.blk HT.out (PgBlk.notLt (by omega)))
    have t8 : ∀ w', Exk (PgBlk w4.heap.size) w4 w' → w'.cell? ⟨w.heap.size, 8, none⟩ = some (.slice eA q.data.length ec) := fun w' h => cell_of_row _ _ _ _ _ _ (h.x.blk HT.out (PgBlk.notLt (by omega)))
    have t9 : ∀ w', Exk (PgBlk w4.heap.size) w4 w' → w'.cell? ⟨w.heap.size, 9, none⟩ = some (.int .i64 q.next) := fun w' h => cell_of_row _ _ _ _ _ _ (h.x.blk HT.out (PgBlk.notLt (by omega)))
    have t10 : ∀ w', Exk (PgBlk w4.heap.size) w4 w' → w'.cell? ⟨w.heap.size, 10, none⟩ = some (.slice sA sep.length sc) := fun w' h => cell_of_row _ _ _ _ _ _ (h.x.blk HT.out (PgBlk.notLt (by omega)))
    have t11 : ∀ w', Exk (PgBlk w4.heap.size) w4 w' → w'.cell? ⟨w.heap.size, 11, none⟩ = some (.bool toR) := fun w' h => cell_of_row _ _ _ _ _ _ (h.x.blk HT.out (PgBlk.notLt (by omega)))
    repeat (first | (apply wpR_one; (case ho => (simp only [List.getElem?_toArray, List.getElem?_cons_succ, List.getElem?_cons_zero]; try exact rfl)); (case hw => rfl); (case hl => rfl); (case hsp => rfl); (case he => rfl); (case hv => (intro w' hw'; (try (have hw2 := Ext.trans hEW hw')); (try (have hw3 := Exc.trans hEW hw')); (try (have hw4 := Exk.trans hEW hw')); (try (have hw5 := Mrk.trans hEW hw')); go_simp; exact rfl)); (case hw0 => (first | exact Below.refl _ _ | exact Exc.of_ext (Below.refl _ _) | exact Exk.of_ext (Below.refl _ _) | exact Mrk.of_ext (Below.refl _ _))); simp only [Act.put, List.setIfInBounds_toArray, List.set_cons_succ, List.set_cons_zero]) | (apply wpR_early; (case ho => (simp only [List.getElem?_toArray, List.getElem?_cons_succ, List.getElem?_cons_zero]; try exact rfl)); (case hw => rfl); (case hl => rfl); (case hsp => rfl); (case he => rfl); (case hv => (intro w' hw'; (try have hw2 := Ext.trans hEW hw'); go_simp; exact rfl)); simp only [Act.put, List.setIfInBounds_toArray, List.set_cons_succ, List.set_cons_zero]) | (apply wpR_pass; (case ho => (simp only [List.getElem?_toArray, List.getElem?_cons_succ, List.getElem?_cons_zero]; try exact rfl)); (case hw => rfl); (case hl => rfl); simp only [Act.put, List.setIfInBounds_toArray, List.set_cons_succ, List.set_cons_zero]))
    refine wpR_new (by ((simp only [List.getElem?_toArray, List.getElem?_cons_succ, List.getElem?_cons_zero]; try exact rfl))) _ rfl rfl rfl (fun V v => PgO.lastsK _ _) (fun V V' h => rfl) (fun w' hw' hK => ?_) (fun v hv => ?_)
    · have HX := Lib.hid (hX w' hw')
      clear hK
      unfold opAt; go_simp; refine upAt_enter ?_
      refine (copyPage_any (hv1.ext HX.out)).mono ?_
      rintro e w2 ⟨v', rfl, hO, hE2⟩
      exact ⟨_, rfl, hE2, hO.mono (hEW.trans hw').x.size⟩
    obtain ⟨xA0, xc0, xD0, xd0, rfl⟩ : ∃ a b c d, v = .agg #[.int .i64 p.kind, .int .i64 p.level, .slice a p.items.length b, .slice c p.data.length d, .int .i64 p.next] := by
      obtain ⟨_, _, _, hO⟩ := hv
      obtain ⟨a, b, c, d, ps, e, _⟩ := hO.ex
      exact ⟨a, b, c, d, e⟩
    clear hv
    simp only [Act.put, List.setIfInBounds_toArray, List.set_cons_succ, List.set_cons_zero]
    repeat (first | (apply wpR_one; (case ho => (simp only [List.getElem?_toArray, List.getElem?_cons_succ, List.getElem?_cons_zero]; try exact rfl)); (case hw => rfl); (case hl => rfl); (case hsp => rfl); (case he => rfl); (case hv => (intro w' hw'; (try (have hw2 := Ext.trans hEW hw')); (try (have hw3 := Exc.trans hEW hw')); (try (have hw4 := Exk.trans hEW hw')); (try (have hw5 := Mrk.trans hEW hw')); go_simp; exact rfl)); (case hw0 => (first | exact Below.refl _ _ | exact Exc.of_ext (Below.refl _ _) | exact Exk.of_ext (Below.refl _ _) | exact Mrk.of_ext (Below.refl _ _))); simp only [Act.put, List.setIfInBounds_toArray, List.set_cons_succ, List.set_cons_zero]) | (apply wpR_early; (case ho => (simp only [List.getElem?_toArray, List.getElem?_cons_succ, List.getElem?_cons_zero]; try exact rfl)); (case hw => rfl); (case hl => rfl); (case hsp => rfl); (case he => rfl); (case hv => (intro w' hw'; (try have hw2 := Ext.trans hEW hw'); go_simp; exact rfl)); simp only [Act.put, List.setIfInBounds_toArray, List.set_cons_succ, List.set_cons_zero]) | (apply wpR_pass; (case ho => (simp only [List.getElem?_toArray, List.getElem?_cons_succ, List.getElem?_cons_zero]; try exact rfl)); (case hw => rfl); (case hl => rfl); simp only [Act.put, List.setIfInBounds_toArray, List.set_cons_succ, List.set_cons_zero]))
    refine wpR_new (by ((simp only [List.getElem?_toArray, List.getElem?_cons_succ, List.getElem?_cons_zero]; try exact rfl))) _ rfl rfl rfl (fun V v => PgO.lastsK _ _) (fun V V' h => rfl) (fun w' hw' hK => ?_) (fun v hv => ?_)
    · have HX := Lib.hid (hX w' hw')
      clear hK
      unfold opAt; go_simp; refine upAt_enter ?_
      refine (copyPage_any (hv2.ext HX.out)).mono ?_
      rintro e w2 ⟨v', rfl, hO, hE2⟩
      exact ⟨_, rfl, hE2, hO.mono (hEW.trans hw').x.size⟩
    obtain ⟨xA1, xc1, xD1, xd1, rfl⟩ : ∃ a b c d, v = .agg #[.int .i64 q.kind, .int .i64 q.level, .slice a q.items.length b, .slice c q.data.length d, .int .i64 q.next] := by
      obtain ⟨_, _, _, hO⟩ := hv
      obtain ⟨a, b, c, d, ps, e, _⟩ := hO.ex
      exact ⟨a, b, c, d, e⟩
    clear hv
    simp only [Act.put, List.setIfInBounds_toArray, List.set_cons_succ, List.set_cons_zero]
    repeat (first | (apply wpR_one; (case ho => (simp only [List.getElem?_toArray, List.getElem?_cons_succ, List.getElem?_cons_zero]; try exact rfl)); (case hw => rfl); (case hl => rfl); (case hsp => rfl); (case he => rfl); (case hv => (intro w' hw'; (try (have hw2 := Ext.trans hEW hw')); (try (have hw3 := Exc.trans hEW hw')); (try (have hw4 := Exk.trans hEW hw')); (try (have hw5 := Mrk.trans hEW hw')); go_simp; exact rfl)); (case hw0 => (first | exact Below.refl _ _ | exact Exc.of_ext (Below.refl _ _) | exact Exk.of_ext (Below.refl _ _) | exact Mrk.of_ext (Below.refl _ _))); simp only [Act.put, List.setIfInBounds_toArray, List.set_cons_succ, List.set_cons_zero]) | (apply wpR_early; (case ho => (simp only [List.getElem?_toArray, List.getElem?_cons_succ, List.getElem?_cons_zero]; try exact rfl)); (case hw => rfl); (case hl => rfl); (case hsp => rfl); (case he => rfl); (case hv => (intro w' hw'; (try have hw2 := Ext.trans hEW hw'); go_simp; exact rfl)); simp only [Act.put, List.setIfInBounds_toArray, List.set_cons_succ, List.set_cons_zero]) | (apply wpR_pass; (case ho => (simp only [List.getElem?_toArray, List.getElem?_cons_succ, List.getElem?_cons_zero]; try exact rfl)); (case hw => rfl); (case hl => rfl); simp only [Act.put, List.setIfInBounds_toArray, List.set_cons_succ, List.set_cons_zero]))
    refine wpR_new (by ((simp only [List.getElem?_toArray, List.getElem?_cons_succ, List.getElem?_cons_zero]; try exact rfl))) _ rfl rfl rfl (fun V v => SOwn.lastsK _ _) (fun V V' h => rfl) (fun w' hw' hK => ?_) (fun v hv => ?_)
    · have HX := Lib.hid (hX w' hw')
      clear hK
      unfold opAt; go_simp; refine upAt_enter ?_
      refine (copyBytes_any (hs.ext HX.out)).mono ?_
      rintro e w2 ⟨A9, c9, rfl, hO, hE2⟩
      exact ⟨_, rfl, hE2, A9, c9, rfl, hO.mono (hEW.trans hw').x.size⟩
    obtain ⟨xA2, xc2, rfl⟩ : ∃ A c, v = .slice A sep.length c := by
      obtain ⟨_, _, _, A, c, h, _⟩ := hv
      exact ⟨A, c, h⟩
    clear hv
    simp only [Act.put, List.setIfInBounds_toArray, List.set_cons_succ, List.set_cons_zero]
    repeat (first | (apply wpR_one; (case ho => (simp only [List.getElem?_toArray, List.getElem?_cons_succ, List.getElem?_cons_zero]; try exact rfl)); (case hw => rfl); (case hl => rfl); (case hsp => rfl); (case he => rfl); (case hv => (intro w' hw'; (try (have hw2 := Ext.trans hEW hw')); (try (have hw3 := Exc.trans hEW hw')); (try (have hw4 := Exk.trans hEW hw')); (try (have hw5 := Mrk.trans hEW hw')); go_simp; exact rfl)); (case hw0 => (first | exact Below.refl _ _ | exact Exc.of_ext (Below.refl _ _) | exact Exk.of_ext (Below.refl _ _) | exact Mrk.of_ext (Below.refl _ _))); simp only [Act.put, List.setIfInBounds_toArray, List.set_cons_succ, List.set_cons_zero]) | (apply wpR_early; (case ho => (simp only [List.getElem?_toArray, List.getElem?_cons_succ, List.getElem?_cons_zero]; try exact rfl)); (case hw => rfl); (case hl => rfl); (case hsp => rfl); (case he => rfl); (case hv => (intro w' hw'; (try have hw2 := Ext.trans hEW hw'); go_simp; exact rfl)); simp only [Act.put, List.setIfInBounds_toArray, List.set_cons_succ, List.set_cons_zero]) | (apply wpR_pass; (case ho => (simp only [List.getElem?_toArray, List.getElem?_cons_succ, List.getElem?_cons_zero]; try exact rfl)); (case hw => rfl); (case hl => rfl); simp only [Act.put, List.setIfInBounds_toArray, List.set_cons_succ, List.set_cons_zero]))
    refine wpR_new (by ((simp only [List.getElem?_toArray, List.getElem?_cons_succ, List.getElem?_cons_zero]; try exact rfl))) _ rfl rfl rfl (fun V v => JoinIn.lastsK _ _ _) (fun V V' h => rfl) (fun w' hw' hK => ?_) (fun v hv => ?_)
    · have HK2 := Lib.hid (hK 2 (by kernel_rfl)).2
      have HK5 := Lib.hid (hK 5 (by kernel_rfl)).2
      have HK8 := Lib.hid (hK 8 (by kernel_rfl)).2
      clear hK
      unfold opAt; go_simp; refine upAt_enter ?_
      have k2 : PgO w4.heap.size w' (.agg #[.int .i64 p.kind, .int .i64 p.level, .slice xA0 p.items.length xc0, .slice xD0 p.data.length xd0, .int .i64 p.next]) p := HK2.out
      have k5 : PgO w4.heap.size w' (.agg #[.int .i64 q.kind, .int .i64 q.level, .slice xA1 q.items.length xc1, .slice xD1 q.data.length xd1, .int .i64 q.next]) q := HK5.out
      have k8 : SOwn 5 w4.heap.size sep (.slice xA2 sep.length xc2) w' := HK8.out
      refine (njoin_any (k2.pgv hsm1) (k5.pgv hsm2) (k8.own.sl hsl) rfl).mono ?_
      rintro e w2 ⟨v1, rfl, o1, hE2⟩
      rw [HJA.out] at o1
      rw [HJZ.out]
      have hs2 := (hEW.trans hw').x.size
      exact ⟨_, rfl, hE2, v1, rfl, o1.mono hs2⟩
    obtain ⟨iA6, ic6, dA6, dc6, rfl⟩ : ∃ a b c d, v = .tuple #[.agg #[.int .i64 pj.kind, .int .i64 pj.level, .slice a pj.items.length b, .slice c pj.data.length d, .int .i64 pj.next], .bool jz] := by
      obtain ⟨_, _, _, v1, e, o1⟩ := hv
      obtain ⟨a, b, c, d, _, rfl, _⟩ := o1.ex
      exact ⟨a, b, c, d, e⟩
    clear hv
    simp only [Act.put, List.setIfInBounds_toArray, List.set_cons_succ, List.set_cons_zero]
    repeat (first | (apply wpR_one; (case ho => (simp only [List.getElem?_toArray, List.getElem?_cons_succ, List.getElem?_cons_zero]; try exact rfl)); (case hw => rfl); (case hl => rfl); (case hsp => rfl); (case he => rfl); (case hv => (intro w' hw'; (try (have hw2 := Ext.trans hEW hw')); (try (have hw3 := Exc.trans hEW hw')); (try (have hw4 := Exk.trans hEW hw')); (try (have hw5 := Mrk.trans hEW hw')); go_simp; exact rfl)); (case hw0 => (first | exact Below.refl _ _ | exact Exc.of_ext (Below.refl _ _) | exact Exk.of_ext (Below.refl _ _) | exact Mrk.of_ext (Below.refl _ _))); simp only [Act.put, List.setIfInBounds_toArray, List.set_cons_succ, List.set_cons_zero]) | (apply wpR_early; (case ho => (simp only [List.getElem?_toArray, List.getElem?_cons_succ, List.getElem?_cons_zero]; try exact rfl)); (case hw => rfl); (case hl => rfl); (case hsp => rfl); (case he => rfl); (case hv => (intro w' hw'; (try have hw2 := Ext.trans hEW hw'); go_simp; exact rfl)); simp only [Act.put, List.setIfInBounds_toArray, List.set_cons_succ, List.set_cons_zero]) | (apply wpR_pass; (case ho => (simp only [List.getElem?_toArray, List.getElem?_cons_succ, List.getElem?_cons_zero]; try exact rfl)); (case hw => rfl); (case hl => rfl); simp only [Act.put, List.setIfInBounds_toArray, List.set_cons_succ, List.set_cons_zero]))
    refine wpR_alloc (by ((simp only [List.getElem?_toArray, List.getElem?_cons_succ, List.getElem?_cons_zero]; try exact rfl))) _ rfl rfl rfl (fun V v => PgCell.lasts _ _) (fun V V' h => rfl) (fun w' hw' hK => ?_) (fun v hv => ?_)
    · have hXs := (hEW.trans hw').x.size
      unfold opAt
      go_simp
      exact upAt_value ⟨ext_alloc _ _, ⟨_, rfl, hXs, _, heap_alloc_new _ _, rfl⟩, fun _ g hg => by injection hg with hg; exact ⟨hg.symm, by simp⟩⟩
    obtain ⟨g6, rfl⟩ : ∃ g, v = .pointer (some ⟨g, 0, none⟩) := by
      obtain ⟨_, _, _, g, e, _⟩ := hv
      exact ⟨g, e⟩
    clear hv
    simp only [Act.put, List.setIfInBounds_toArray, List.set_cons_succ, List.set_cons_zero]
    refine wpR_late (by ((simp only [List.getElem?_toArray, List.getElem?_cons_succ, List.getElem?_cons_zero]; try exact rfl))) _ rfl rfl (fun V v w' w2 h he => h.ext he) (fun V V' h => by simp only [h 9 (by kernel_rfl), h 13 (by kernel_rfl)]) (fun w' hw' hK hF => ?_) (fun v hv => ?_)
    · obtain ⟨g, e8, hg8, cs, hb8, hs8⟩ := (hK 13 (by kernel_rfl)).2
      obtain rfl := ptr_inj (show Value.pointer (some ⟨g6, 0, none⟩) = _ from e8)
      refine opAt_list rfl #[] (fun Q hQ => ?_)
      refine wpList_store_box rfl 26 _ _ rfl g6 _ rfl rfl 26 _ hb8 (by kernel_rfl) hs8 (by simp [Value.oneCell']) (fun w2 hb hg => ?_)
      exact hQ _ _ ⟨Exk.of_only hg hb8 hb (by rw [hs8]; rfl) ⟨hg8, _, _, rfl⟩, ⟨g6, _, rfl, hg8, rfl, hb⟩⟩
    clear hv
    simp only [Act.put, List.setIfInBounds_toArray, List.set_cons_succ, List.set_cons_zero]
    repeat (first | (apply wpR_one; (case ho => (simp only [List.getElem?_toArray, List.getElem?_cons_succ, List.getElem?_cons_zero]; try exact rfl)); (case hw => rfl); (case hl => rfl); (case hsp => rfl); (case he => rfl); (case hv => (intro w' hw'; (try (have hw2 := Ext.trans hEW hw')); (try (have hw3 := Exc.trans hEW hw')); (try (have hw4 := Exk.trans hEW hw')); (try (have hw5 := Mrk.trans hEW hw')); go_simp; exact rfl)); (case hw0 => (first | exact Below.refl _ _ | exact Exc.of_ext (Below.refl _ _) | exact Exk.of_ext (Below.refl _ _) | exact Mrk.of_ext (Below.refl _ _))); simp only [Act.put, List.setIfInBounds_toArray, List.set_cons_succ, List.set_cons_zero]) | (apply wpR_early; (case ho => (simp only [List.getElem?_toArray, List.getElem?_cons_succ, List.getElem?_cons_zero]; try exact rfl)); (case hw => rfl); (case hl => rfl); (case hsp => rfl); (case he => rfl); (case hv => (intro w' hw'; (try have hw2 := Ext.trans hEW hw'); go_simp; exact rfl)); simp only [Act.put, List.setIfInBounds_toArray, List.set_cons_succ, List.set_cons_zero]) | (apply wpR_pass; (case ho => (simp only [List.getElem?_toArray, List.getElem?_cons_succ, List.getElem?_cons_zero]; try exact rfl)); (case hw => rfl); (case hl => rfl); simp only [Act.put, List.setIfInBounds_toArray, List.set_cons_succ, List.set_cons_zero]))
    apply wpR_nil
    apply hN
    intro w5 hE' hK hF
    have hEn := hXb w5 hE'
    have hk := (hK 9).2
    obtain ⟨hq1, hG1⟩ : PgV w5 (.agg #[.int .i64 pj.kind, .int .i64 pj.level, .slice iA6 pj.items.length ic6, .slice dA6 pj.data.length dc6, .int .i64 pj.next]) pj ∧ w5.heap[g6]? = some (.cells #[.int .i64 pj.kind, .int .i64 pj.level, .slice iA6 pj.items.length ic6, .slice dA6 pj.data.length dc6, .int .i64 pj.next] 26) := by
      obtain ⟨v1, e, o1⟩ := hk
      have e' : Value.tuple #[.agg #[.int .i64 pj.kind, .int .i64 pj.level, .slice iA6 pj.items.length ic6, .slice dA6 pj.data.length dc6, .int .i64 pj.next], .bool jz] = .tuple #[v1, .bool jz] := e
      simp only [Value.tuple.injEq, Array.mk.injEq, List.cons.injEq, and_true] at e'
      obtain rfl := e'
      obtain ⟨_, _, x1, x2, x3, x4⟩ := hF
      obtain rfl := ptr_inj x1
      have x3' : Value.agg #[.int .i64 pj.kind, .int .i64 pj.level, .slice iA6 pj.items.length ic6, .slice dA6 pj.data.length dc6, .int .i64 pj.next] = _ := x3
      injection x3' with x3'
      subst x3'
      exact ⟨o1.pgv hjm, x4⟩
    have HG6 := Lib.hid hG1
    clear hG1
    clear hk hK hN hF t0 t1 t2 t3 t4 t5 t6 t7 t8 t9 t10 t11 hX hXb hEW hE' hW hF0 hw0
    replace HT := Lib.hid (hEn.blk HT.out)
    replace HI := Lib.hid (hEn.blk HI.out)
    replace hU1 := hU1.ext hEn
    replace hU2 := hU2.ext hEn
    replace hE := hE.trans hEn
    clear hEn
    have ct0 := cell_of_row w5 w.heap.size 0 _ _ _ HT.out
    have ct1 := cell_of_row w5 w.heap.size 1 _ _ _ HT.out
    have ct2 := cell_of_row w5 w.heap.size 2 _ _ _ HT.out
    have ct3 := cell_of_row w5 w.heap.size 3 _ _ _ HT.out
    have ct4 := cell_of_row w5 w.heap.size 4 _ _ _ HT.out
    have ct5 := cell_of_row w5 w.heap.size 5 _ _ _ HT.out
    have ct6 := cell_of_row w5 w.heap.size 6 _ _ _ HT.out
    have ct7 := cell_of_row w5 w.heap.size 7 _ _ _ HT.out
    have ct8 := cell_of_row w5 w.heap.size 8 _ _ _ HT.out
    have ct9 := cell_of_row w5 w.heap.size 9 _ _ _ HT.out
    have ct10 := cell_of_row w5 w.heap.size 10 _ _ _ HT.out
    have ct11 := cell_of_row w5 w.heap.size 11 _ _ _ HT.out
    simp only [List.getElem?_toArray, List.getElem?_cons_zero, List.getElem?_cons_succ] at ct0 ct1 ct2 ct3 ct4 ct5 ct6 ct7 ct8 ct9 ct10 ct11
    by_cases h8 : p.items.length + q.items.length ≤ 8
    · have h8i : (p.items.length : Int) + q.items.length ≤ 8 := by omega
      obtain rfl : jz = true := by
        rw [← HJZ.out, HJL.out.1]
        simpa using h8
      have HJ2 := Lib.hid (show OkP pj ∧ leadB pj key = foundB p q sep key by
        have h9 := HJL.out.2 h8
        rw [HJA.out] at h9
        exact ⟨h9.1, h9.2 key⟩)
      clear h8
      have cg60 := cell_of_row w5 g6 0 _ _ _ HG6.out
      have cg61 := cell_of_row w5 g6 1 _ _ _ HG6.out
      have cg62 := cell_of_row w5 g6 2 _ _ _ HG6.out
      have cg63 := cell_of_row w5 g6 3 _ _ _ HG6.out
      have cg64 := cell_of_row w5 g6 4 _ _ _ HG6.out
      simp only [List.getElem?_toArray, List.getElem?_cons_zero, List.getElem?_cons_succ] at cg60 cg61 cg62 cg63 cg64
      go_wp2_with fail
      clear ct0 ct1 ct2 ct3 ct4 ct5 ct6 ct7 ct8 ct9 ct10 ct11 cg60 cg61 cg62 cg63 cg64
      refine (check_any hq1).mono ?_
      rintro e w6 ⟨n6, rfl, hn6, hE6⟩
      obtain rfl : n6 = 0 := hn6.2 HJ2.out.1
      clear hn6
      replace HT := Lib.hid (hE6.blk HT.out)
      replace HI := Lib.hid (hE6.blk HI.out)
      replace HG6 := Lib.hid (hE6.blk HG6.out)
      replace hU1 := hU1.ext hE6
      replace hU2 := hU2.ext hE6
      replace hq1 := hq1.ext hE6
      replace hE := hE.trans hE6
      clear hE6
      have cg60 := cell_of_row w6 g6 0 _ _ _ HG6.out
      have cg61 := cell_of_row w6 g6 1 _ _ _ HG6.out
      have cg62 := cell_of_row w6 g6 2 _ _ _ HG6.out
      have cg63 := cell_of_row w6 g6 3 _ _ _ HG6.out
      have cg64 := cell_of_row w6 g6 4 _ _ _ HG6.out
      simp only [List.getElem?_toArray, List.getElem?_cons_zero, List.getElem?_cons_succ] at cg60 cg61 cg62 cg63 cg64
      go_wp2_with fail
      clear cg60 cg61 cg62 cg63 cg64
      refine (lead_any hq1 (Below.refl _ _) (hk.ext hE) rfl).mono ?_
      rintro e w7 ⟨u, rfl, hU, hE7⟩
      rw [HJ2.out.2, HFI1.out] at hU
      rw [HJ2.out.2, HFH.out]
      obtain ⟨kA4, kc4, vA4, vc4, rfl, hU3, hU4⟩ := hU.ex
      clear hU
      clear hq1
      clear HG6
      replace HT := Lib.hid (hE7.blk HT.out)
      replace HI := Lib.hid (hE7.blk HI.out)
      replace hU1 := hU1.ext hE7
      replace hU2 := hU2.ext hE7
      replace hU3 := hU3.ext hE7
      replace hU4 := hU4.ext hE7
      replace hE := hE.trans hE7
      clear hE7
      have hx := ext_alloc w7 (.cells #[.slice kA4 fi.key.length kc4, .slice vA4 fi.val.length vc4, .int .i64 fi.ch, .int .i64 fi.sz] 51)
      have HK := Lib.hid (heap_alloc_new w7 (.cells #[.slice kA4 fi.key.length kc4, .slice vA4 fi.val.length vc4, .int .i64 fi.ch, .int .i64 fi.sz] 51))
      replace HT := Lib.hid (hx.blk HT.out)
      replace HI := Lib.hid (hx.blk HI.out)
      replace hU1 := hU1.ext hx
      replace hU2 := hU2.ext hx
      replace hU3 := hU3.ext hx
      replace hU4 := hU4.ext hx
      replace hE := hE.trans hx
      clear hx
      have ci0 := cell_of_row (w7.alloc (.cells #[.slice kA4 fi.key.length kc4, .slice vA4 fi.val.length vc4, .int .i64 fi.ch, .int .i64 fi.sz] 51)) b5 0 _ _ _ HI.out
      have ci1 := cell_of_row (w7.alloc (.cells #[.slice kA4 fi.key.length kc4, .slice vA4 fi.val.length vc4, .int .i64 fi.ch, .int .i64 fi.sz] 51)) b5 1 _ _ _ HI.out
      have ci2 := cell_of_row (w7.alloc (.cells #[.slice kA4 fi.key.length kc4, .slice vA4 fi.val.length vc4, .int .i64 fi.ch, .int .i64 fi.sz] 51)) b5 2 _ _ _ HI.out
      have ci3 := cell_of_row (w7.alloc (.cells #[.slice kA4 fi.key.length kc4, .slice vA4 fi.val.length vc4, .int .i64 fi.ch, .int .i64 fi.sz] 51)) b5 3 _ _ _ HI.out
      simp only [List.getElem?_toArray, List.getElem?_cons_zero, List.getElem?_cons_succ] at ci0 ci1 ci2 ci3
      go_wp2_with fail
      clear ci0 ci1 ci2 ci3
      refine (eqItem_any (x := fi) (y := fi) hU1 hU2 hU3 hU4 rfl rfl rfl rfl rfl rfl rfl rfl).mono ?_
      rintro e w8 ⟨rfl, hE8⟩
      rw [show eqIt fi fi = true by simp [eqIt]]
      clear hU3 hU4 HK
      replace HT := Lib.hid (hE8.blk HT.out)
      replace HI := Lib.hid (hE8.blk HI.out)
      replace hU1 := hU1.ext hE8
      replace hU2 := hU2.ext hE8
      replace hE := hE.trans hE8
      clear hE8
      go_wp2_with fail
      have hw0 : w.heap.size < w8.heap.size := (Array.getElem?_eq_some_iff.1 HT.out).1
      refine wp_region_rg (Exk (PgBlk w8.heap.size)) (rel_exk _) (fun _ => True) [0, 1, 2, 3, 4, 5, 6, 7, 8, 9, 10, 11, 12, 13, 14, 15, 16, 17, 18, 19, 20, 21, 22] (fun i => match i with
        | 2 => some fun V v w' => PgO w8.heap.size w' v p
        | 5 => some fun V v w' => PgO w8.heap.size w' v q
        | 8 => some fun V v w' => SOwn 5 w8.heap.size sep v w'
        | 11 => some fun V => LendIn w8.heap.size la lb ls lz
        | 17 => some fun V => PgCell w8.heap.size
        | 18 => some fun V => PgCell w8.heap.size
        | _ => none) (fun i => match i with
        | 19 => some fun V _ => StoredAt w8.heap.size (comp (V 11) 0) (V 17)
        | 20 => some fun V _ => Stored2 w8.heap.size (comp (V 11) 0) (V 17) (comp (V 11) 1) (V 18)
        | _ => none) (fun _ => false) (by kernel_rfl) (by kernel_rfl) (fun _ _ h he => trivial) trivial (fun W N hW hF0 hN => ?_)
      have hEW : Exk (PgBlk w8.heap.size) w8 W := Exk.of_ext hW
      have hXb : ∀ w', Exk (PgBlk w8.heap.size) W w' → Ext w8 w' := fun w' h => (Exk.trans hEW h).x.to_ext (Below.refl _ _) (fun k _ hk => hk.1)
      have hX : ∀ w', Exk (PgBlk w8.heap.size) W w' → Ext w w' := fun w' h => hE.trans (hXb w' h)
      have t0 : ∀ w', Exk (PgBlk w8.heap.size) w8 w' → w'.cell? ⟨w.heap.size, 0, none⟩ = some (.int .i64 p.kind) := fun w' h => cell_of_row _ _ _ _ _ _ (h.x.blk HT.out (PgBlk.notLt (by omega)))
      have t1 : ∀ w', Exk (PgBlk w8.heap.size) w8 w' → w'.cell? ⟨w.heap.size, 1, none⟩ = some (.int .i64 p.level) := fun w' h => cell_of_row _ _ _ _ _ _ (h.x.blk HT.out (PgBlk.notLt (by omega)))
      have t2 : ∀ w', Exk (PgBlk w8.heap.size) w8 w' → w'.cell? ⟨w.heap.size, 2, none⟩ = some (.slice iA p.items.length ic) := fun w' h => cell_of_row _ _ _ _ _ _ (h.x.blk HT.out (PgBlk.notLt (by omega)))
      have t3 : ∀ w', Exk (PgBlk w8.heap.size) w8 w' → w'.cell? ⟨w.heap.size, 3, none⟩ = some (.slice dA p.data.length dc) := fun w' h => cell_of_row _ _ _ _ _ _ (h.x.blk HT.out (PgBlk.notLt (by omega)))
      have t4 : ∀ w', Exk (PgBlk w8.heap.size) w8 w' → w'.cell? ⟨w.heap.size, 4, none⟩ = some (.int .i64 p.next) := fun w' h => cell_of_row _ _ _ _ _ _ (h.x.blk HT.out (PgBlk.notLt (by omega)))
      have t5 : ∀ w', Exk (PgBlk w8.heap.size) w8 w' → w'.cell? ⟨w.heap.size, 5, none⟩ = some (.int .i64 q.kind) := fun w' h => cell_of_row _ _ _ _ _ _ (h.x.blk HT.out (PgBlk.notLt (by omega)))
      have t6 : ∀ w', Exk (PgBlk w8.heap.size) w8 w' → w'.cell? ⟨w.heap.size, 6, none⟩ = some (.int .i64 q.level) := fun w' h => cell_of_row _ _ _ _ _ _ (h.x.blk HT.out (PgBlk.notLt (by omega)))
      have t7 : ∀ w', Exk (PgBlk w8.heap.size) w8 w' → w'.cell? ⟨w.heap.size, 7, none⟩ = some (.slice jA q.items.length jc) := fun w' h => cell_of_row _ _ _ _ _ _ (h.x.blk HT.out (PgBlk.notLt (by omega)))
      have t8 : ∀ w', Exk (PgBlk w8.heap.size) w8 w' → w'.cell? ⟨w.heap.size, 8, none⟩ = some (.slice eA q.data.length ec) := fun w' h => cell_of_row _ _ _ _ _ _ (h.x.blk HT.out (PgBlk.notLt (by omega)))
      have t9 : ∀ w', Exk (PgBlk w8.heap.size) w8 w' → w'.cell? ⟨w.heap.size, 9, none⟩ = some (.int .i64 q.next) := fun w' h => cell_of_row _ _ _ _ _ _ (h.x.blk HT.out (PgBlk.notLt (by omega)))
      have t10 : ∀ w', Exk (PgBlk w8.heap.size) w8 w' → w'.cell? ⟨w.heap.size, 10, none⟩ = some (.slice sA sep.length sc) := fun w' h => cell_of_row _ _ _ _ _ _ (h.x.blk HT.out (PgBlk.notLt (by omega)))
      have t11 : ∀ w', Exk (PgBlk w8.heap.size) w8 w' → w'.cell? ⟨w.heap.size, 11, none⟩ = some (.bool toR) := fun w' h => cell_of_row _ _ _ _ _ _ (h.x.blk HT.out (PgBlk.notLt (by omega)))
      repeat (first | (apply wpR_one; (case ho => (simp only [List.getElem?_toArray, List.getElem?_cons_succ, List.getElem?_cons_zero]; try exact rfl)); (case hw => rfl); (case hl => rfl); (case hsp => rfl); (case he => rfl); (case hv => (intro w' hw'; (try (have hw2 := Ext.trans hEW hw')); (try (have hw3 := Exc.trans hEW hw')); (try (have hw4 := Exk.trans hEW hw')); (try (have hw5 := Mrk.trans hEW hw')); go_simp; exact rfl)); (case hw0 => (first | exact Below.refl _ _ | exact Exc.of_ext (Below.refl _ _) | exact Exk.of_ext (Below.refl _ _) | exact Mrk.of_ext (Below.refl _ _))); simp only [Act.put, List.setIfInBounds_toArray, List.set_cons_succ, List.set_cons_zero]) | (apply wpR_early; (case ho => (simp only [List.getElem?_toArray, List.getElem?_cons_succ, List.getElem?_cons_zero]; try exact rfl)); (case hw => rfl); (case hl => rfl); (case hsp => rfl); (case he => rfl); (case hv => (intro w' hw'; (try have hw2 := Ext.trans hEW hw'); go_simp; exact rfl)); simp only [Act.put, List.setIfInBounds_toArray, List.set_cons_succ, List.set_cons_zero]) | (apply wpR_pass; (case ho => (simp only [List.getElem?_toArray, List.getElem?_cons_succ, List.getElem?_cons_zero]; try exact rfl)); (case hw => rfl); (case hl => rfl); simp only [Act.put, List.setIfInBounds_toArray, List.set_cons_succ, List.set_cons_zero]))
      refine wpR_new (by ((simp only [List.getElem?_toArray, List.getElem?_cons_succ, List.getElem?_cons_zero]; try exact rfl))) _ rfl rfl rfl (fun V v => PgO.lastsK _ _) (fun V V' h => rfl) (fun w' hw' hK => ?_) (fun v hv => ?_)
      · have HX := Lib.hid (hX w' hw')
        clear hK
        unfold opAt; go_simp; refine upAt_enter ?_
        refine (copyPage_any (hv1.ext HX.out)).mono ?_
        rintro e w2 ⟨v', rfl, hO, hE2⟩
        exact ⟨_, rfl, hE2, hO.mono (hEW.trans hw').x.size⟩
      obtain ⟨xA0, xc0, xD0, xd0, rfl⟩ : ∃ a b c d, v = .agg #[.int .i64 p.kind, .int .i64 p.level, .slice a p.items.length b, .slice c p.data.length d, .int .i64 p.next] := by
        obtain ⟨_, _, _, hO⟩ := hv
        obtain ⟨a, b, c, d, ps, e, _⟩ := hO.ex
        exact ⟨a, b, c, d, e⟩
      clear hv
      simp only [Act.put, List.setIfInBounds_toArray, List.set_cons_succ, List.set_cons_zero]
      repeat (first | (apply wpR_one; (case ho => (simp only [List.getElem?_toArray, List.getElem?_cons_succ, List.getElem?_cons_zero]; try exact rfl)); (case hw => rfl); (case hl => rfl); (case hsp => rfl); (case he => rfl); (case hv => (intro w' hw'; (try (have hw2 := Ext.trans hEW hw')); (try (have hw3 := Exc.trans hEW hw')); (try (have hw4 := Exk.trans hEW hw')); (try (have hw5 := Mrk.trans hEW hw')); go_simp; exact rfl)); (case hw0 => (first | exact Below.refl _ _ | exact Exc.of_ext (Below.refl _ _) | exact Exk.of_ext (Below.refl _ _) | exact Mrk.of_ext (Below.refl _ _))); simp only [Act.put, List.setIfInBounds_toArray, List.set_cons_succ, List.set_cons_zero]) | (apply wpR_early; (case ho => (simp only [List.getElem?_toArray, List.getElem?_cons_succ, List.getElem?_cons_zero]; try exact rfl)); (case hw => rfl); (case hl => rfl); (case hsp => rfl); (case he => rfl); (case hv => (intro w' hw'; (try have hw2 := Ext.trans hEW hw'); go_simp; exact rfl)); simp only [Act.put, List.setIfInBounds_toArray, List.set_cons_succ, List.set_cons_zero]) | (apply wpR_pass; (case ho => (simp only [List.getElem?_toArray, List.getElem?_cons_succ, List.getElem?_cons_zero]; try exact rfl)); (case hw => rfl); (case hl => rfl); simp only [Act.put, List.setIfInBounds_toArray, List.set_cons_succ, List.set_cons_zero]))
      refine wpR_new (by ((simp only [List.getElem?_toArray, List.getElem?_cons_succ, List.getElem?_cons_zero]; try exact rfl))) _ rfl rfl rfl (fun V v => PgO.lastsK _ _) (fun V V' h => rfl) (fun w' hw' hK => ?_) (fun v hv => ?_)
      · have HX := Lib.hid (hX w' hw')
        clear hK
        unfold opAt; go_simp; refine upAt_enter ?_
        refine (copyPage_any (hv2.ext HX.out)).mono ?_
        rintro e w2 ⟨v', rfl, hO, hE2⟩
        exact ⟨_, rfl, hE2, hO.mono (hEW.trans hw').x.size⟩
      obtain ⟨xA1, xc1, xD1, xd1, rfl⟩ : ∃ a b c d, v = .agg #[.int .i64 q.kind, .int .i64 q.level, .slice a q.items.length b, .slice c q.data.length d, .int .i64 q.next] := by
        obtain ⟨_, _, _, hO⟩ := hv
        obtain ⟨a, b, c, d, ps, e, _⟩ := hO.ex
        exact ⟨a, b, c, d, e⟩
      clear hv
      simp only [Act.put, List.setIfInBounds_toArray, List.set_cons_succ, List.set_cons_zero]
      repeat (first | (apply wpR_one; (case ho => (simp only [List.getElem?_toArray, List.getElem?_cons_succ, List.getElem?_cons_zero]; try exact rfl)); (case hw => rfl); (case hl => rfl); (case hsp => rfl); (case he => rfl); (case hv => (intro w' hw'; (try (have hw2 := Ext.trans hEW hw')); (try (have hw3 := Exc.trans hEW hw')); (try (have hw4 := Exk.trans hEW hw')); (try (have hw5 := Mrk.trans hEW hw')); go_simp; exact rfl)); (case hw0 => (first | exact Below.refl _ _ | exact Exc.of_ext (Below.refl _ _) | exact Exk.of_ext (Below.refl _ _) | exact Mrk.of_ext (Below.refl _ _))); simp only [Act.put, List.setIfInBounds_toArray, List.set_cons_succ, List.set_cons_zero]) | (apply wpR_early; (case ho => (simp only [List.getElem?_toArray, List.getElem?_cons_succ, List.getElem?_cons_zero]; try exact rfl)); (case hw => rfl); (case hl => rfl); (case hsp => rfl); (case he => rfl); (case hv => (intro w' hw'; (try have hw2 := Ext.trans hEW hw'); go_simp; exact rfl)); simp only [Act.put, List.setIfInBounds_toArray, List.set_cons_succ, List.set_cons_zero]) | (apply wpR_pass; (case ho => (simp only [List.getElem?_toArray, List.getElem?_cons_succ, List.getElem?_cons_zero]; try exact rfl)); (case hw => rfl); (case hl => rfl); simp only [Act.put, List.setIfInBounds_toArray, List.set_cons_succ, List.set_cons_zero]))
      refine wpR_new (by ((simp only [List.getElem?_toArray, List.getElem?_cons_succ, List.getElem?_cons_zero]; try exact rfl))) _ rfl rfl rfl (fun V v => SOwn.lastsK _ _) (fun V V' h => rfl) (fun w' hw' hK => ?_) (fun v hv => ?_)
      · have HX := Lib.hid (hX w' hw')
        clear hK
        unfold opAt; go_simp; refine upAt_enter ?_
        refine (copyBytes_any (hs.ext HX.out)).mono ?_
        rintro e w2 ⟨A9, c9, rfl, hO, hE2⟩
        exact ⟨_, rfl, hE2, A9, c9, rfl, hO.mono (hEW.trans hw').x.size⟩
      obtain ⟨xA2, xc2, rfl⟩ : ∃ A c, v = .slice A sep.length c := by
        obtain ⟨_, _, _, A, c, h, _⟩ := hv
        exact ⟨A, c, h⟩
      clear hv
      simp only [Act.put, List.setIfInBounds_toArray, List.set_cons_succ, List.set_cons_zero]
      repeat (first | (apply wpR_one; (case ho => (simp only [List.getElem?_toArray, List.getElem?_cons_succ, List.getElem?_cons_zero]; try exact rfl)); (case hw => rfl); (case hl => rfl); (case hsp => rfl); (case he => rfl); (case hv => (intro w' hw'; (try (have hw2 := Ext.trans hEW hw')); (try (have hw3 := Exc.trans hEW hw')); (try (have hw4 := Exk.trans hEW hw')); (try (have hw5 := Mrk.trans hEW hw')); go_simp; exact rfl)); (case hw0 => (first | exact Below.refl _ _ | exact Exc.of_ext (Below.refl _ _) | exact Exk.of_ext (Below.refl _ _) | exact Mrk.of_ext (Below.refl _ _))); simp only [Act.put, List.setIfInBounds_toArray, List.set_cons_succ, List.set_cons_zero]) | (apply wpR_early; (case ho => (simp only [List.getElem?_toArray, List.getElem?_cons_succ, List.getElem?_cons_zero]; try exact rfl)); (case hw => rfl); (case hl => rfl); (case hsp => rfl); (case he => rfl); (case hv => (intro w' hw'; (try have hw2 := Ext.trans hEW hw'); go_simp; exact rfl)); simp only [Act.put, List.setIfInBounds_toArray, List.set_cons_succ, List.set_cons_zero]) | (apply wpR_pass; (case ho => (simp only [List.getElem?_toArray, List.getElem?_cons_succ, List.getElem?_cons_zero]; try exact rfl)); (case hw => rfl); (case hl => rfl); simp only [Act.put, List.setIfInBounds_toArray, List.set_cons_succ, List.set_cons_zero]))
      refine wpR_new (by ((simp only [List.getElem?_toArray, List.getElem?_cons_succ, List.getElem?_cons_zero]; try exact rfl))) _ rfl rfl rfl (fun V v => LendIn.lastsK _ _ _ _ _) (fun V V' h => rfl) (fun w' hw' hK => ?_) (fun v hv => ?_)
      · have HK2 := Lib.hid (hK 2 (by kernel_rfl)).2
        have HK5 := Lib.hid (hK 5 (by kernel_rfl)).2
        have HK8 := Lib.hid (hK 8 (by kernel_rfl)).2
        clear hK
        unfold opAt; go_simp; refine upAt_enter ?_
        have k2 : PgO w8.heap.size w' (.agg #[.int .i64 p.kind, .int .i64 p.level, .slice xA0 p.items.length xc0, .slice xD0 p.data.length xd0, .int .i64 p.next]) p := HK2.out
        have k5 : PgO w8.heap.size w' (.agg #[.int .i64 q.kind, .int .i64 q.level, .slice xA1 q.items.length xc1, .slice xD1 q.data.length xd1, .int .i64 q.next]) q := HK5.out
        have k8 : SOwn 5 w8.heap.size sep (.slice xA2 sep.length xc2) w' := HK8.out
        refine (nlend_any (k2.pgv hsm1) (k5.pgv hsm2) (k8.own.sl hsl) rfl (lend_bound hpl hql)).mono ?_
        rintro e w2 ⟨v1, v2, A9, c9, rfl, o1, o2, os, hE2⟩
        rw [HLA.out] at o1
        rw [HLB.out] at o2
        rw [HLS.out] at os ⊢
        rw [HLZ.out]
        have hs2 := (hEW.trans hw').x.size
        exact ⟨_, rfl, hE2, v1, v2, A9, c9, rfl, o1.mono hs2, o2.mono hs2, os.mono hs2⟩
      obtain ⟨iA7, ic7, dA7, dc7, iA8, ic8, dA8, dc8, lA, lc, rfl⟩ : ∃ a b c d a2 b2 c2 d2 A C, v = .tuple #[.agg #[.int .i64 la.kind, .int .i64 la.level, .slice a la.items.length b, .slice c la.data.length d, .int .i64 la.next], .agg #[.int .i64 lb.kind, .int .i64 lb.level, .slice a2 lb.items.length b2, .slice c2 lb.data.length d2, .int .i64 lb.next], .slice A ls.length C, .bool lz] := by
        obtain ⟨_, _, _, v1, v2, A, C, e, o1, o2, _⟩ := hv
        obtain ⟨a, b, c, d, _, rfl, _⟩ := o1.ex
        obtain ⟨a2, b2, c2, d2, _, rfl, _⟩ := o2.ex
        exact ⟨a, b, c, d, a2, b2, c2, d2, A, C, e⟩
      clear hv
      simp only [Act.put, List.setIfInBounds_toArray, List.set_cons_succ, List.set_cons_zero]
      repeat (first | (apply wpR_one; (case ho => (simp only [List.getElem?_toArray, List.getElem?_cons_succ, List.getElem?_cons_zero]; try exact rfl)); (case hw => rfl); (case hl => rfl); (case hsp => rfl); (case he => rfl); (case hv => (intro w' hw'; (try (have hw2 := Ext.trans hEW hw')); (try (have hw3 := Exc.trans hEW hw')); (try (have hw4 := Exk.trans hEW hw')); (try (have hw5 := Mrk.trans hEW hw')); go_simp; exact rfl)); (case hw0 => (first | exact Below.refl _ _ | exact Exc.of_ext (Below.refl _ _) | exact Exk.of_ext (Below.refl _ _) | exact Mrk.of_ext (Below.refl _ _))); simp only [Act.put, List.setIfInBounds_toArray, List.set_cons_succ, List.set_cons_zero]) | (apply wpR_early; (case ho => (simp only [List.getElem?_toArray, List.getElem?_cons_succ, List.getElem?_cons_zero]; try exact rfl)); (case hw => rfl); (case hl => rfl); (case hsp => rfl); (case he => rfl); (case hv => (intro w' hw'; (try have hw2 := Ext.trans hEW hw'); go_simp; exact rfl)); simp only [Act.put, List.setIfInBounds_toArray, List.set_cons_succ, List.set_cons_zero]) | (apply wpR_pass; (case ho => (simp only [List.getElem?_toArray, List.getElem?_cons_succ, List.getElem?_cons_zero]; try exact rfl)); (case hw => rfl); (case hl => rfl); simp only [Act.put, List.setIfInBounds_toArray, List.set_cons_succ, List.set_cons_zero]))
      refine wpR_alloc (by ((simp only [List.getElem?_toArray, List.getElem?_cons_succ, List.getElem?_cons_zero]; try exact rfl))) _ rfl rfl rfl (fun V v => PgCell.lasts _ _) (fun V V' h => rfl) (fun w' hw' hK => ?_) (fun v hv => ?_)
      · have hXs := (hEW.trans hw').x.size
        unfold opAt
        go_simp
        exact upAt_value ⟨ext_alloc _ _, ⟨_, rfl, hXs, _, heap_alloc_new _ _, rfl⟩, fun _ g hg => by injection hg with hg; exact ⟨hg.symm, by simp⟩⟩
      obtain ⟨g7, rfl⟩ : ∃ g, v = .pointer (some ⟨g, 0, none⟩) := by
        obtain ⟨_, _, _, g, e, _⟩ := hv
        exact ⟨g, e⟩
      clear hv
      simp only [Act.put, List.setIfInBounds_toArray, List.set_cons_succ, List.set_cons_zero]
      refine wpR_alloc (by ((simp only [List.getElem?_toArray, List.getElem?_cons_succ, List.getElem?_cons_zero]; try exact rfl))) _ rfl rfl rfl (fun V v => PgCell.lasts _ _) (fun V V' h => rfl) (fun w' hw' hK => ?_) (fun v hv => ?_)
      · have hXs := (hEW.trans hw').x.size
        unfold opAt
        go_simp
        exact upAt_value ⟨ext_alloc _ _, ⟨_, rfl, hXs, _, heap_alloc_new _ _, rfl⟩, fun _ g hg => by injection hg with hg; exact ⟨hg.symm, by simp⟩⟩
      obtain ⟨g8, rfl⟩ : ∃ g, v = .pointer (some ⟨g, 0, none⟩) := by
        obtain ⟨_, _, _, g, e, _⟩ := hv
        exact ⟨g, e⟩
      clear hv
      simp only [Act.put, List.setIfInBounds_toArray, List.set_cons_succ, List.set_cons_zero]
      refine wpR_late (by ((simp only [List.getElem?_toArray, List.getElem?_cons_succ, List.getElem?_cons_zero]; try exact rfl))) _ rfl rfl (fun V v w' w2 h he => h.ext he) (fun V V' h => by simp only [h 11 (by kernel_rfl), h 17 (by kernel_rfl)]) (fun w' hw' hK hF => ?_) (fun v hv => ?_)
      · obtain ⟨g, e8, hg8, cs, hb8, hs8⟩ := (hK 17 (by kernel_rfl)).2
        obtain rfl := ptr_inj (show Value.pointer (some ⟨g7, 0, none⟩) = _ from e8)
        refine opAt_list rfl #[] (fun Q hQ => ?_)
        refine wpList_store_box rfl 26 _ _ rfl g7 _ rfl rfl 26 _ hb8 (by kernel_rfl) hs8 (by simp [Value.oneCell']) (fun w2 hb hg => ?_)
        exact hQ _ _ ⟨Exk.of_only hg hb8 hb (by rw [hs8]; rfl) ⟨hg8, _, _, rfl⟩, ⟨g7, _, rfl, hg8, rfl, hb⟩⟩
      clear hv
      simp only [Act.put, List.setIfInBounds_toArray, List.set_cons_succ, List.set_cons_zero]
      refine wpR_lateP (by ((simp only [List.getElem?_toArray, List.getElem?_cons_succ, List.getElem?_cons_zero]; try exact rfl))) _ rfl rfl (fun V v w' w2 h he => ⟨h.1.ext he, h.2.1.ext he, h.2.2⟩) (fun V V' h => by simp only [h 11 (by kernel_rfl), h 17 (by kernel_rfl), h 18 (by kernel_rfl)]) (fun w' hw' hK hF hP => ?_) (fun v hv => ?_)
      · obtain ⟨g, e9, hg9, cs, hb9, hs9⟩ := (hK 18 (by kernel_rfl)).2
        obtain rfl := ptr_inj (show Value.pointer (some ⟨g8, 0, none⟩) = _ from e9)
        have hne : g7 ≠ g8 := fun e => hP 17 18 (by kernel_rfl) (by kernel_rfl) (by decide) (by kernel_rfl) (by kernel_rfl) g7 rfl (by rw [e]; rfl)
        obtain ⟨g', cs', e10, hg10, e11, hb10⟩ := hF
        obtain rfl := ptr_inj (show Value.pointer (some ⟨g7, 0, none⟩) = _ from e10)
        refine opAt_list rfl #[] (fun Q hQ => ?_)
        refine wpList_store_box rfl 26 _ _ rfl g8 _ rfl rfl 26 _ hb9 (by kernel_rfl) hs9 (by simp [Value.oneCell']) (fun w2 hb hg => ?_)
        exact hQ _ _ ⟨Exk.of_only hg hb9 hb (by rw [hs9]; rfl) ⟨hg9, _, _, rfl⟩, ⟨g7, _, rfl, hg10, e11, blk_other hb10 hg hne⟩, ⟨g8, _, rfl, hg9, rfl, hb⟩, fun e => hne (ptr_inj (show Value.pointer (some ⟨g7, 0, none⟩) = Value.pointer (some ⟨g8, 0, none⟩) from e))⟩
      clear hv
      simp only [Act.put, List.setIfInBounds_toArray, List.set_cons_succ, List.set_cons_zero]
      repeat (first | (apply wpR_one; (case ho => (simp only [List.getElem?_toArray, List.getElem?_cons_succ, List.getElem?_cons_zero]; try exact rfl)); (case hw => rfl); (case hl => rfl); (case hsp => rfl); (case he => rfl); (case hv => (intro w' hw'; (try (have hw2 := Ext.trans hEW hw')); (try (have hw3 := Exc.trans hEW hw')); (try (have hw4 := Exk.trans hEW hw')); (try (have hw5 := Mrk.trans hEW hw')); go_simp; exact rfl)); (case hw0 => (first | exact Below.refl _ _ | exact Exc.of_ext (Below.refl _ _) | exact Exk.of_ext (Below.refl _ _) | exact Mrk.of_ext (Below.refl _ _))); simp only [Act.put, List.setIfInBounds_toArray, List.set_cons_succ, List.set_cons_zero]) | (apply wpR_early; (case ho => (simp only [List.getElem?_toArray, List.getElem?_cons_succ, List.getElem?_cons_zero]; try exact rfl)); (case hw => rfl); (case hl => rfl); (case hsp => rfl); (case he => rfl); (case hv => (intro w' hw'; (try have hw2 := Ext.trans hEW hw'); go_simp; exact rfl)); simp only [Act.put, List.setIfInBounds_toArray, List.set_cons_succ, List.set_cons_zero]) | (apply wpR_pass; (case ho => (simp only [List.getElem?_toArray, List.getElem?_cons_succ, List.getElem?_cons_zero]; try exact rfl)); (case hw => rfl); (case hl => rfl); simp only [Act.put, List.setIfInBounds_toArray, List.set_cons_succ, List.set_cons_zero]))
      apply wpR_nil
      apply hN
      intro w9 hE' hK hF
      have hEn := hXb w9 hE'
      have hk := (hK 11).2
      obtain ⟨hq1, hq2, hq3, hG1, hG2⟩ : PgV w9 (.agg #[.int .i64 la.kind, .int .i64 la.level, .slice iA7 la.items.length ic7, .slice dA7 la.data.length dc7, .int .i64 la.next]) la ∧ PgV w9 (.agg #[.int .i64 lb.kind, .int .i64 lb.level, .slice iA8 lb.items.length ic8, .slice dA8 lb.data.length dc8, .int .i64 lb.next]) lb ∧ Sl w9 lA lc ls ∧ w9.heap[g7]? = some (.cells #[.int .i64 la.kind, .int .i64 la.level, .slice iA7 la.items.length ic7, .slice dA7 la.data.length dc7, .int .i64 la.next] 26) ∧ w9.heap[g8]? = some (.cells #[.int .i64 lb.kind, .int .i64 lb.level, .slice iA8 lb.items.length ic8, .slice dA8 lb.data.length dc8, .int .i64 lb.next] 26) := by
        obtain ⟨v1, v2, A9, c9, e, o1, o2, os⟩ := hk
        have e' : Value.tuple #[.agg #[.int .i64 la.kind, .int .i64 la.level, .slice iA7 la.items.length ic7, .slice dA7 la.data.length dc7, .int .i64 la.next], .agg #[.int .i64 lb.kind, .int .i64 lb.level, .slice iA8 lb.items.length ic8, .slice dA8 lb.data.length dc8, .int .i64 lb.next], .slice lA ls.length lc, .bool lz] = .tuple #[v1, v2, .slice A9 ls.length c9, .bool lz] := e
        simp only [Value.tuple.injEq, Array.mk.injEq, List.cons.injEq, Value.slice.injEq, and_true, true_and] at e'
        obtain ⟨rfl, rfl, rfl, rfl⟩ := e'
        obtain ⟨s1, s2, _⟩ := hF
        obtain ⟨_, _, x1, x2, x3, x4⟩ := s1
        obtain rfl := ptr_inj x1
        have x3' : Value.agg #[.int .i64 la.kind, .int .i64 la.level, .slice iA7 la.items.length ic7, .slice dA7 la.data.length dc7, .int .i64 la.next] = _ := x3
        injection x3' with x3'
        subst x3'
        obtain ⟨_, _, y1, y2, y3, y4⟩ := s2
        obtain rfl := ptr_inj y1
        have y3' : Value.agg #[.int .i64 lb.kind, .int .i64 lb.level, .slice iA8 lb.items.length ic8, .slice dA8 lb.data.length dc8, .int .i64 lb.next] = _ := y3
        injection y3' with y3'
        subst y3'
        exact ⟨o1.pgv hlm.a, o2.pgv hlm.b, os.sl hlm.c, x4, y4⟩
      have HG7 := Lib.hid hG1
      have HG8 := Lib.hid hG2
      clear hG1 hG2
      clear hk hK hN hF t0 t1 t2 t3 t4 t5 t6 t7 t8 t9 t10 t11 hX hXb hEW hE' hW hF0 hw0
      replace HT := Lib.hid (hEn.blk HT.out)
      replace HI := Lib.hid (hEn.blk HI.out)
      replace hU1 := hU1.ext hEn
      replace hU2 := hU2.ext hEn
      replace hE := hE.trans hEn
      clear hEn
      have cg70 := cell_of_row w9 g7 0 _ _ _ HG7.out
      have cg71 := cell_of_row w9 g7 1 _ _ _ HG7.out
      have cg72 := cell_of_row w9 g7 2 _ _ _ HG7.out
      have cg73 := cell_of_row w9 g7 3 _ _ _ HG7.out
      have cg74 := cell_of_row w9 g7 4 _ _ _ HG7.out
      simp only [List.getElem?_toArray, List.getElem?_cons_zero, List.getElem?_cons_succ] at cg70 cg71 cg72 cg73 cg74
      have cg80 := cell_of_row w9 g8 0 _ _ _ HG8.out
      have cg81 := cell_of_row w9 g8 1 _ _ _ HG8.out
      have cg82 := cell_of_row w9 g8 2 _ _ _ HG8.out
      have cg83 := cell_of_row w9 g8 3 _ _ _ HG8.out
      have cg84 := cell_of_row w9 g8 4 _ _ _ HG8.out
      simp only [List.getElem?_toArray, List.getElem?_cons_zero, List.getElem?_cons_succ] at cg80 cg81 cg82 cg83 cg84
      cases lz
      · go_wp2
        go_ret
        exact ⟨rfl, hE⟩
      have HEQ := Lib.hid (show foundB la lb ls key = foundB p q sep key by
        refine HFL.out la lb ls ?_
        have h1 := HLA.out
        have h2 := HLB.out
        have h3 := HLS.out
        have h4 := HLZ.out
        cases h : lendB p q sep toR with
        | none => rw [h] at h4; cases h4
        | some r =>
          rw [h] at h1 h2 h3
          obtain ⟨a, b, s⟩ := r
          obtain rfl : a = la := h1
          obtain rfl : b = lb := h2
          obtain rfl : s = ls := h3
          rfl)
      go_wp2_with fail
      clear cg70 cg71 cg72 cg73 cg74 cg80 cg81 cg82 cg83 cg84
      refine (found_any hq1 hq2 hq3 rfl (hk.ext hE) rfl).mono ?_
      rintro e w10 ⟨u, rfl, hU, hE10⟩
      rw [HEQ.out, HFI1.out] at hU
      rw [HEQ.out, HFH.out]
      obtain ⟨kA6, kc6, vA6, vc6, rfl, hU3, hU4⟩ := hU.ex
      clear hU hq1 hq2 hq3
      replace HT := Lib.hid (hE10.blk HT.out)
      replace HI := Lib.hid (hE10.blk HI.out)
      replace HG7 := Lib.hid (hE10.blk HG7.out)
      replace HG8 := Lib.hid (hE10.blk HG8.out)
      replace hU1 := hU1.ext hE10
      replace hU2 := hU2.ext hE10
      replace hE := hE.trans hE10
      clear hE10
      have hx := ext_alloc w10 (.cells #[.slice kA6 fi.key.length kc6, .slice vA6 fi.val.length vc6, .int .i64 fi.ch, .int .i64 fi.sz] 51)
      have HJ := Lib.hid (heap_alloc_new w10 (.cells #[.slice kA6 fi.key.length kc6, .slice vA6 fi.val.length vc6, .int .i64 fi.ch, .int .i64 fi.sz] 51))
      replace HT := Lib.hid (hx.blk HT.out)
      replace HI := Lib.hid (hx.blk HI.out)
      replace HG7 := Lib.hid (hx.blk HG7.out)
      replace HG8 := Lib.hid (hx.blk HG8.out)
      replace hU1 := hU1.ext hx
      replace hU2 := hU2.ext hx
      replace hU3 := hU3.ext hx
      replace hU4 := hU4.ext hx
      replace hE := hE.trans hx
      clear hx
      have ci0 := cell_of_row (w10.alloc (.cells #[.slice kA6 fi.key.length kc6, .slice vA6 fi.val.length vc6, .int .i64 fi.ch, .int .i64 fi.sz] 51)) b5 0 _ _ _ HI.out
      have ci1 := cell_of_row (w10.alloc (.cells #[.slice kA6 fi.key.length kc6, .slice vA6 fi.val.length vc6, .int .i64 fi.ch, .int .i64 fi.sz] 51)) b5 1 _ _ _ HI.out
      have ci2 := cell_of_row (w10.alloc (.cells #[.slice kA6 fi.key.length kc6, .slice vA6 fi.val.length vc6, .int .i64 fi.ch, .int .i64 fi.sz] 51)) b5 2 _ _ _ HI.out
      have ci3 := cell_of_row (w10.alloc (.cells #[.slice kA6 fi.key.length kc6, .slice vA6 fi.val.length vc6, .int .i64 fi.ch, .int .i64 fi.sz] 51)) b5 3 _ _ _ HI.out
      simp only [List.getElem?_toArray, List.getElem?_cons_zero, List.getElem?_cons_succ] at ci0 ci1 ci2 ci3
      go_wp2_with fail
      clear ci0 ci1 ci2 ci3
      refine (eqItem_any (x := fi) (y := fi) hU1 hU2 hU3 hU4 rfl rfl rfl rfl rfl rfl rfl rfl).mono ?_
      rintro e w11 ⟨rfl, hE11⟩
      rw [show eqIt fi fi = true by simp [eqIt]]
      have hEE := hE.trans hE11
      clear hE hE11
      go_wp2
      go_ret
      exact ⟨rfl, hEE⟩
    · have h8i : (8 : Int) < (p.items.length : Int) + q.items.length := by omega
      obtain rfl : jz = false := by
        rw [← HJZ.out, HJL.out.1]
        simpa using h8
      clear h8 hq1
      clear HG6
      go_wp2_with fail
      clear ct0 ct1 ct2 ct3 ct4 ct5 ct6 ct7 ct8 ct9 ct10 ct11
      have hw0 : w.heap.size < w5.heap.size := (Array.getElem?_eq_some_iff.1 HT.out).1
      refine wp_region_rg (Exk (PgBlk w5.heap.size)) (rel_exk _) (fun _ => True) [0, 1, 2, 3, 4, 5, 6, 7, 8, 9, 10, 11, 12, 13, 14, 15, 16, 17, 18, 19, 20, 21, 22] (fun i => match i with
        | 2 => some fun V v w' => PgO w5.heap.size w' v p
        | 5 => some fun V v w' => PgO w5.heap.size w' v q
        | 8 => some fun V v w' => SOwn 5 w5.heap.size sep v w'
        | 11 => some fun V => LendIn w5.heap.size la lb ls lz
        | 17 => some fun V => PgCell w5.heap.size
        | 18 => some fun V => PgCell w5.heap.size
        | _ => none) (fun i => match i with
        | 19 => some fun V _ => StoredAt w5.heap.size (comp (V 11) 0) (V 17)
        | 20 => some fun V _ => Stored2 w5.heap.size (comp (V 11) 0) (V 17) (comp (V 11) 1) (V 18)
        | _ => none) (fun _ => false) (by kernel_rfl) (by kernel_rfl) (fun _ _ h he => trivial) trivial (fun W N hW hF0 hN => ?_)
      have hEW : Exk (PgBlk w5.heap.size) w5 W := Exk.of_ext hW
      have hXb : ∀ w', Exk (PgBlk w5.heap.size) W w' → Ext w5 w' := fun w' h => (Exk.trans hEW h).x.to_ext (Below.refl _ _) (fun k _ hk => hk.1)
      have hX : ∀ w', Exk (PgBlk w5.heap.size) W w' → Ext w w' := fun w' h => hE.trans (hXb w' h)
      have t0 : ∀ w', Exk (PgBlk w5.heap.size) w5 w' → w'.cell? ⟨w.heap.size, 0, none⟩ = some (.int .i64 p.kind) := fun w' h => cell_of_row _ _ _ _ _ _ (h.x.blk HT.out (PgBlk.notLt (by omega)))
      have t1 : ∀ w', Exk (PgBlk w5.heap.size) w5 w' → w'.cell? ⟨w.heap.size, 1, none⟩ = some (.int .i64 p.level) := fun w' h => cell_of_row _ _ _ _ _ _ (h.x.blk HT.out (PgBlk.notLt (by omega)))
      have t2 : ∀ w', Exk (PgBlk w5.heap.size) w5 w' → w'.cell? ⟨w.heap.size, 2, none⟩ = some (.slice iA p.items.length ic) := fun w' h => cell_of_row _ _ _ _ _ _ (h.x.blk HT.out (PgBlk.notLt (by omega)))
      have t3 : ∀ w', Exk (PgBlk w5.heap.size) w5 w' → w'.cell? ⟨w.heap.size, 3, none⟩ = some (.slice dA p.data.length dc) := fun w' h => cell_of_row _ _ _ _ _ _ (h.x.blk HT.out (PgBlk.notLt (by omega)))
      have t4 : ∀ w', Exk (PgBlk w5.heap.size) w5 w' → w'.cell? ⟨w.heap.size, 4, none⟩ = some (.int .i64 p.next) := fun w' h => cell_of_row _ _ _ _ _ _ (h.x.blk HT.out (PgBlk.notLt (by omega)))
      have t5 : ∀ w', Exk (PgBlk w5.heap.size) w5 w' → w'.cell? ⟨w.heap.size, 5, none⟩ = some (.int .i64 q.kind) := fun w' h => cell_of_row _ _ _ _ _ _ (h.x.blk HT.out (PgBlk.notLt (by omega)))
      have t6 : ∀ w', Exk (PgBlk w5.heap.size) w5 w' → w'.cell? ⟨w.heap.size, 6, none⟩ = some (.int .i64 q.level) := fun w' h => cell_of_row _ _ _ _ _ _ (h.x.blk HT.out (PgBlk.notLt (by omega)))
      have t7 : ∀ w', Exk (PgBlk w5.heap.size) w5 w' → w'.cell? ⟨w.heap.size, 7, none⟩ = some (.slice jA q.items.length jc) := fun w' h => cell_of_row _ _ _ _ _ _ (h.x.blk HT.out (PgBlk.notLt (by omega)))
      have t8 : ∀ w', Exk (PgBlk w5.heap.size) w5 w' → w'.cell? ⟨w.heap.size, 8, none⟩ = some (.slice eA q.data.length ec) := fun w' h => cell_of_row _ _ _ _ _ _ (h.x.blk HT.out (PgBlk.notLt (by omega)))
      have t9 : ∀ w', Exk (PgBlk w5.heap.size) w5 w' → w'.cell? ⟨w.heap.size, 9, none⟩ = some (.int .i64 q.next) := fun w' h => cell_of_row _ _ _ _ _ _ (h.x.blk HT.out (PgBlk.notLt (by omega)))
      have t10 : ∀ w', Exk (PgBlk w5.heap.size) w5 w' → w'.cell? ⟨w.heap.size, 10, none⟩ = some (.slice sA sep.length sc) := fun w' h => cell_of_row _ _ _ _ _ _ (h.x.blk HT.out (PgBlk.notLt (by omega)))
      have t11 : ∀ w', Exk (PgBlk w5.heap.size) w5 w' → w'.cell? ⟨w.heap.size, 11, none⟩ = some (.bool toR) := fun w' h => cell_of_row _ _ _ _ _ _ (h.x.blk HT.out (PgBlk.notLt (by omega)))
      repeat (first | (apply wpR_one; (case ho => (simp only [List.getElem?_toArray, List.getElem?_cons_succ, List.getElem?_cons_zero]; try exact rfl)); (case hw => rfl); (case hl => rfl); (case hsp => rfl); (case he => rfl); (case hv => (intro w' hw'; (try (have hw2 := Ext.trans hEW hw')); (try (have hw3 := Exc.trans hEW hw')); (try (have hw4 := Exk.trans hEW hw')); (try (have hw5 := Mrk.trans hEW hw')); go_simp; exact rfl)); (case hw0 => (first | exact Below.refl _ _ | exact Exc.of_ext (Below.refl _ _) | exact Exk.of_ext (Below.refl _ _) | exact Mrk.of_ext (Below.refl _ _))); simp only [Act.put, List.setIfInBounds_toArray, List.set_cons_succ, List.set_cons_zero]) | (apply wpR_early; (case ho => (simp only [List.getElem?_toArray, List.getElem?_cons_succ, List.getElem?_cons_zero]; try exact rfl)); (case hw => rfl); (case hl => rfl); (case hsp => rfl); (case he => rfl); (case hv => (intro w' hw'; (try have hw2 := Ext.trans hEW hw'); go_simp; exact rfl)); simp only [Act.put, List.setIfInBounds_toArray, List.set_cons_succ, List.set_cons_zero]) | (apply wpR_pass; (case ho => (simp only [List.getElem?_toArray, List.getElem?_cons_succ, List.getElem?_cons_zero]; try exact rfl)); (case hw => rfl); (case hl => rfl); simp only [Act.put, List.setIfInBounds_toArray, List.set_cons_succ, List.set_cons_zero]))
      refine wpR_new (by ((simp only [List.getElem?_toArray, List.getElem?_cons_succ, List.getElem?_cons_zero]; try exact rfl))) _ rfl rfl rfl (fun V v => PgO.lastsK _ _) (fun V V' h => rfl) (fun w' hw' hK => ?_) (fun v hv => ?_)
      · have HX := Lib.hid (hX w' hw')
        clear hK
        unfold opAt; go_simp; refine upAt_enter ?_
        refine (copyPage_any (hv1.ext HX.out)).mono ?_
        rintro e w2 ⟨v', rfl, hO, hE2⟩
        exact ⟨_, rfl, hE2, hO.mono (hEW.trans hw').x.size⟩
      obtain ⟨xA0, xc0, xD0, xd0, rfl⟩ : ∃ a b c d, v = .agg #[.int .i64 p.kind, .int .i64 p.level, .slice a p.items.length b, .slice c p.data.length d, .int .i64 p.next] := by
        obtain ⟨_, _, _, hO⟩ := hv
        obtain ⟨a, b, c, d, ps, e, _⟩ := hO.ex
        exact ⟨a, b, c, d, e⟩
      clear hv
      simp only [Act.put, List.setIfInBounds_toArray, List.set_cons_succ, List.set_cons_zero]
      repeat (first | (apply wpR_one; (case ho => (simp only [List.getElem?_toArray, List.getElem?_cons_succ, List.getElem?_cons_zero]; try exact rfl)); (case hw => rfl); (case hl => rfl); (case hsp => rfl); (case he => rfl); (case hv => (intro w' hw'; (try (have hw2 := Ext.trans hEW hw')); (try (have hw3 := Exc.trans hEW hw')); (try (have hw4 := Exk.trans hEW hw')); (try (have hw5 := Mrk.trans hEW hw')); go_simp; exact rfl)); (case hw0 => (first | exact Below.refl _ _ | exact Exc.of_ext (Below.refl _ _) | exact Exk.of_ext (Below.refl _ _) | exact Mrk.of_ext (Below.refl _ _))); simp only [Act.put, List.setIfInBounds_toArray, List.set_cons_succ, List.set_cons_zero]) | (apply wpR_early; (case ho => (simp only [List.getElem?_toArray, List.getElem?_cons_succ, List.getElem?_cons_zero]; try exact rfl)); (case hw => rfl); (case hl => rfl); (case hsp => rfl); (case he => rfl); (case hv => (intro w' hw'; (try have hw2 := Ext.trans hEW hw'); go_simp; exact rfl)); simp only [Act.put, List.setIfInBounds_toArray, List.set_cons_succ, List.set_cons_zero]) | (apply wpR_pass; (case ho => (simp only [List.getElem?_toArray, List.getElem?_cons_succ, List.getElem?_cons_zero]; try exact rfl)); (case hw => rfl); (case hl => rfl); simp only [Act.put, List.setIfInBounds_toArray, List.set_cons_succ, List.set_cons_zero]))
      refine wpR_new (by ((simp only [List.getElem?_toArray, List.getElem?_cons_succ, List.getElem?_cons_zero]; try exact rfl))) _ rfl rfl rfl (fun V v => PgO.lastsK _ _) (fun V V' h => rfl) (fun w' hw' hK => ?_) (fun v hv => ?_)
      · have HX := Lib.hid (hX w' hw')
        clear hK
        unfold opAt; go_simp; refine upAt_enter ?_
        refine (copyPage_any (hv2.ext HX.out)).mono ?_
        rintro e w2 ⟨v', rfl, hO, hE2⟩
        exact ⟨_, rfl, hE2, hO.mono (hEW.trans hw').x.size⟩
      obtain ⟨xA1, xc1, xD1, xd1, rfl⟩ : ∃ a b c d, v = .agg #[.int .i64 q.kind, .int .i64 q.level, .slice a q.items.length b, .slice c q.data.length d, .int .i64 q.next] := by
        obtain ⟨_, _, _, hO⟩ := hv
        obtain ⟨a, b, c, d, ps, e, _⟩ := hO.ex
        exact ⟨a, b, c, d, e⟩
      clear hv
      simp only [Act.put, List.setIfInBounds_toArray, List.set_cons_succ, List.set_cons_zero]
      repeat (first | (apply wpR_one; (case ho => (simp only [List.getElem?_toArray, List.getElem?_cons_succ, List.getElem?_cons_zero]; try exact rfl)); (case hw => rfl); (case hl => rfl); (case hsp => rfl); (case he => rfl); (case hv => (intro w' hw'; (try (have hw2 := Ext.trans hEW hw')); (try (have hw3 := Exc.trans hEW hw')); (try (have hw4 := Exk.trans hEW hw')); (try (have hw5 := Mrk.trans hEW hw')); go_simp; exact rfl)); (case hw0 => (first | exact Below.refl _ _ | exact Exc.of_ext (Below.refl _ _) | exact Exk.of_ext (Below.refl _ _) | exact Mrk.of_ext (Below.refl _ _))); simp only [Act.put, List.setIfInBounds_toArray, List.set_cons_succ, List.set_cons_zero]) | (apply wpR_early; (case ho => (simp only [List.getElem?_toArray, List.getElem?_cons_succ, List.getElem?_cons_zero]; try exact rfl)); (case hw => rfl); (case hl => rfl); (case hsp => rfl); (case he => rfl); (case hv => (intro w' hw'; (try have hw2 := Ext.trans hEW hw'); go_simp; exact rfl)); simp only [Act.put, List.setIfInBounds_toArray, List.set_cons_succ, List.set_cons_zero]) | (apply wpR_pass; (case ho => (simp only [List.getElem?_toArray, List.getElem?_cons_succ, List.getElem?_cons_zero]; try exact rfl)); (case hw => rfl); (case hl => rfl); simp only [Act.put, List.setIfInBounds_toArray, List.set_cons_succ, List.set_cons_zero]))
      refine wpR_new (by ((simp only [List.getElem?_toArray, List.getElem?_cons_succ, List.getElem?_cons_zero]; try exact rfl))) _ rfl rfl rfl (fun V v => SOwn.lastsK _ _) (fun V V' h => rfl) (fun w' hw' hK => ?_) (fun v hv => ?_)
      · have HX := Lib.hid (hX w' hw')
        clear hK
        unfold opAt; go_simp; refine upAt_enter ?_
        refine (copyBytes_any (hs.ext HX.out)).mono ?_
        rintro e w2 ⟨A9, c9, rfl, hO, hE2⟩
        exact ⟨_, rfl, hE2, A9, c9, rfl, hO.mono (hEW.trans hw').x.size⟩
      obtain ⟨xA2, xc2, rfl⟩ : ∃ A c, v = .slice A sep.length c := by
        obtain ⟨_, _, _, A, c, h, _⟩ := hv
        exact ⟨A, c, h⟩
      clear hv
      simp only [Act.put, List.setIfInBounds_toArray, List.set_cons_succ, List.set_cons_zero]
      repeat (first | (apply wpR_one; (case ho => (simp only [List.getElem?_toArray, List.getElem?_cons_succ, List.getElem?_cons_zero]; try exact rfl)); (case hw => rfl); (case hl => rfl); (case hsp => rfl); (case he => rfl); (case hv => (intro w' hw'; (try (have hw2 := Ext.trans hEW hw')); (try (have hw3 := Exc.trans hEW hw')); (try (have hw4 := Exk.trans hEW hw')); (try (have hw5 := Mrk.trans hEW hw')); go_simp; exact rfl)); (case hw0 => (first | exact Below.refl _ _ | exact Exc.of_ext (Below.refl _ _) | exact Exk.of_ext (Below.refl _ _) | exact Mrk.of_ext (Below.refl _ _))); simp only [Act.put, List.setIfInBounds_toArray, List.set_cons_succ, List.set_cons_zero]) | (apply wpR_early; (case ho => (simp only [List.getElem?_toArray, List.getElem?_cons_succ, List.getElem?_cons_zero]; try exact rfl)); (case hw => rfl); (case hl => rfl); (case hsp => rfl); (case he => rfl); (case hv => (intro w' hw'; (try have hw2 := Ext.trans hEW hw'); go_simp; exact rfl)); simp only [Act.put, List.setIfInBounds_toArray, List.set_cons_succ, List.set_cons_zero]) | (apply wpR_pass; (case ho => (simp only [List.getElem?_toArray, List.getElem?_cons_succ, List.getElem?_cons_zero]; try exact rfl)); (case hw => rfl); (case hl => rfl); simp only [Act.put, List.setIfInBounds_toArray, List.set_cons_succ, List.set_cons_zero]))
      refine wpR_new (by ((simp only [List.getElem?_toArray, List.getElem?_cons_succ, List.getElem?_cons_zero]; try exact rfl))) _ rfl rfl rfl (fun V v => LendIn.lastsK _ _ _ _ _) (fun V V' h => rfl) (fun w' hw' hK => ?_) (fun v hv => ?_)
      · have HK2 := Lib.hid (hK 2 (by kernel_rfl)).2
        have HK5 := Lib.hid (hK 5 (by kernel_rfl)).2
        have HK8 := Lib.hid (hK 8 (by kernel_rfl)).2
        clear hK
        unfold opAt; go_simp; refine upAt_enter ?_
        have k2 : PgO w5.heap.size w' (.agg #[.int .i64 p.kind, .int .i64 p.level, .slice xA0 p.items.length xc0, .slice xD0 p.data.length xd0, .int .i64 p.next]) p := HK2.out
        have k5 : PgO w5.heap.size w' (.agg #[.int .i64 q.kind, .int .i64 q.level, .slice xA1 q.items.length xc1, .slice xD1 q.data.length xd1, .int .i64 q.next]) q := HK5.out
        have k8 : SOwn 5 w5.heap.size sep (.slice xA2 sep.length xc2) w' := HK8.out
        refine (nlend_any (k2.pgv hsm1) (k5.pgv hsm2) (k8.own.sl hsl) rfl (lend_bound hpl hql)).mono ?_
        rintro e w2 ⟨v1, v2, A9, c9, rfl, o1, o2, os, hE2⟩
        rw [HLA.out] at o1
        rw [HLB.out] at o2
        rw [HLS.out] at os ⊢
        rw [HLZ.out]
        have hs2 := (hEW.trans hw').x.size
        exact ⟨_, rfl, hE2, v1, v2, A9, c9, rfl, o1.mono hs2, o2.mono hs2, os.mono hs2⟩
      obtain ⟨iA7, ic7, dA7, dc7, iA8, ic8, dA8, dc8, lA, lc, rfl⟩ : ∃ a b c d a2 b2 c2 d2 A C, v = .tuple #[.agg #[.int .i64 la.kind, .int .i64 la.level, .slice a la.items.length b, .slice c la.data.length d, .int .i64 la.next], .agg #[.int .i64 lb.kind, .int .i64 lb.level, .slice a2 lb.items.length b2, .slice c2 lb.data.length d2, .int .i64 lb.next], .slice A ls.length C, .bool lz] := by
        obtain ⟨_, _, _, v1, v2, A, C, e, o1, o2, _⟩ := hv
        obtain ⟨a, b, c, d, _, rfl, _⟩ := o1.ex
        obtain ⟨a2, b2, c2, d2, _, rfl, _⟩ := o2.ex
        exact ⟨a, b, c, d, a2, b2, c2, d2, A, C, e⟩
      clear hv
      simp only [Act.put, List.setIfInBounds_toArray, List.set_cons_succ, List.set_cons_zero]
      repeat (first | (apply wpR_one; (case ho => (simp only [List.getElem?_toArray, List.getElem?_cons_succ, List.getElem?_cons_zero]; try exact rfl)); (case hw => rfl); (case hl => rfl); (case hsp => rfl); (case he => rfl); (case hv => (intro w' hw'; (try (have hw2 := Ext.trans hEW hw')); (try (have hw3 := Exc.trans hEW hw')); (try (have hw4 := Exk.trans hEW hw')); (try (have hw5 := Mrk.trans hEW hw')); go_simp; exact rfl)); (case hw0 => (first | exact Below.refl _ _ | exact Exc.of_ext (Below.refl _ _) | exact Exk.of_ext (Below.refl _ _) | exact Mrk.of_ext (Below.refl _ _))); simp only [Act.put, List.setIfInBounds_toArray, List.set_cons_succ, List.set_cons_zero]) | (apply wpR_early; (case ho => (simp only [List.getElem?_toArray, List.getElem?_cons_succ, List.getElem?_cons_zero]; try exact rfl)); (case hw => rfl); (case hl => rfl); (case hsp => rfl); (case he => rfl); (case hv => (intro w' hw'; (try have hw2 := Ext.trans hEW hw'); go_simp; exact rfl)); simp only [Act.put, List.setIfInBounds_toArray, List.set_cons_succ, List.set_cons_zero]) | (apply wpR_pass; (case ho => (simp only [List.getElem?_toArray, List.getElem?_cons_succ, List.getElem?_cons_zero]; try exact rfl)); (case hw => rfl); (case hl => rfl); simp only [Act.put, List.setIfInBounds_toArray, List.set_cons_succ, List.set_cons_zero]))
      refine wpR_alloc (by ((simp only [List.getElem?_toArray, List.getElem?_cons_succ, List.getElem?_cons_zero]; try exact rfl))) _ rfl rfl rfl (fun V v => PgCell.lasts _ _) (fun V V' h => rfl) (fun w' hw' hK => ?_) (fun v hv => ?_)
      · have hXs := (hEW.trans hw').x.size
        unfold opAt
        go_simp
        exact upAt_value ⟨ext_alloc _ _, ⟨_, rfl, hXs, _, heap_alloc_new _ _, rfl⟩, fun _ g hg => by injection hg with hg; exact ⟨hg.symm, by simp⟩⟩
      obtain ⟨g7, rfl⟩ : ∃ g, v = .pointer (some ⟨g, 0, none⟩) := by
        obtain ⟨_, _, _, g, e, _⟩ := hv
        exact ⟨g, e⟩
      clear hv
      simp only [Act.put, List.setIfInBounds_toArray, List.set_cons_succ, List.set_cons_zero]
      refine wpR_alloc (by ((simp only [List.getElem?_toArray, List.getElem?_cons_succ, List.getElem?_cons_zero]; try exact rfl))) _ rfl rfl rfl (fun V v => PgCell.lasts _ _) (fun V V' h => rfl) (fun w' hw' hK => ?_) (fun v hv => ?_)
      · have hXs := (hEW.trans hw').x.size
        unfold opAt
        go_simp
        exact upAt_value ⟨ext_alloc _ _, ⟨_, rfl, hXs, _, heap_alloc_new _ _, rfl⟩, fun _ g hg => by injection hg with hg; exact ⟨hg.symm, by simp⟩⟩
      obtain ⟨g8, rfl⟩ : ∃ g, v = .pointer (some ⟨g, 0, none⟩) := by
        obtain ⟨_, _, _, g, e, _⟩ := hv
        exact ⟨g, e⟩
      clear hv
      simp only [Act.put, List.setIfInBounds_toArray, List.set_cons_succ, List.set_cons_zero]
      refine wpR_late (by ((simp only [List.getElem?_toArray, List.getElem?_cons_succ, List.getElem?_cons_zero]; try exact rfl))) _ rfl rfl (fun V v w' w2 h he => h.ext he) (fun V V' h => by simp only [h 11 (by kernel_rfl), h 17 (by kernel_rfl)]) (fun w' hw' hK hF => ?_) (fun v hv => ?_)
      · obtain ⟨g, e8, hg8, cs, hb8, hs8⟩ := (hK 17 (by kernel_rfl)).2
        obtain rfl := ptr_inj (show Value.pointer (some ⟨g7, 0, none⟩) = _ from e8)
        refine opAt_list rfl #[] (fun Q hQ => ?_)
        refine wpList_store_box rfl 26 _ _ rfl g7 _ rfl rfl 26 _ hb8 (by kernel_rfl) hs8 (by simp [Value.oneCell']) (fun w2 hb hg => ?_)
        exact hQ _ _ ⟨Exk.of_only hg hb8 hb (by rw [hs8]; rfl) ⟨hg8, _, _, rfl⟩, ⟨g7, _, rfl, hg8, rfl, hb⟩⟩
      clear hv
      simp only [Act.put, List.setIfInBounds_toArray, List.set_cons_succ, List.set_cons_zero]
      refine wpR_lateP (by ((simp only [List.getElem?_toArray, List.getElem?_cons_succ, List.getElem?_cons_zero]; try exact rfl))) _ rfl rfl (fun V v w' w2 h he => ⟨h.1.ext he, h.2.1.ext he, h.2.2⟩) (fun V V' h => by simp only [h 11 (by kernel_rfl), h 17 (by kernel_rfl), h 18 (by kernel_rfl)]) (fun w' hw' hK hF hP => ?_) (fun v hv => ?_)
      · obtain ⟨g, e9, hg9, cs, hb9, hs9⟩ := (hK 18 (by kernel_rfl)).2
        obtain rfl := ptr_inj (show Value.pointer (some ⟨g8, 0, none⟩) = _ from e9)
        have hne : g7 ≠ g8 := fun e => hP 17 18 (by kernel_rfl) (by kernel_rfl) (by decide) (by kernel_rfl) (by kernel_rfl) g7 rfl (by rw [e]; rfl)
        obtain ⟨g', cs', e10, hg10, e11, hb10⟩ := hF
        obtain rfl := ptr_inj (show Value.pointer (some ⟨g7, 0, none⟩) = _ from e10)
        refine opAt_list rfl #[] (fun Q hQ => ?_)
        refine wpList_store_box rfl 26 _ _ rfl g8 _ rfl rfl 26 _ hb9 (by kernel_rfl) hs9 (by simp [Value.oneCell']) (fun w2 hb hg => ?_)
        exact hQ _ _ ⟨Exk.of_only hg hb9 hb (by rw [hs9]; rfl) ⟨hg9, _, _, rfl⟩, ⟨g7, _, rfl, hg10, e11, blk_other hb10 hg hne⟩, ⟨g8, _, rfl, hg9, rfl, hb⟩, fun e => hne (ptr_inj (show Value.pointer (some ⟨g7, 0, none⟩) = Value.pointer (some ⟨g8, 0, none⟩) from e))⟩
      clear hv
      simp only [Act.put, List.setIfInBounds_toArray, List.set_cons_succ, List.set_cons_zero]
      repeat (first | (apply wpR_one; (case ho => (simp only [List.getElem?_toArray, List.getElem?_cons_succ, List.getElem?_cons_zero]; try exact rfl)); (case hw => rfl); (case hl => rfl); (case hsp => rfl); (case he => rfl); (case hv => (intro w' hw'; (try (have hw2 := Ext.trans hEW hw')); (try (have hw3 := Exc.trans hEW hw')); (try (have hw4 := Exk.trans hEW hw')); (try (have hw5 := Mrk.trans hEW hw')); go_simp; exact rfl)); (case hw0 => (first | exact Below.refl _ _ | exact Exc.of_ext (Below.refl _ _) | exact Exk.of_ext (Below.refl _ _) | exact Mrk.of_ext (Below.refl _ _))); simp only [Act.put, List.setIfInBounds_toArray, List.set_cons_succ, List.set_cons_zero]) | (apply wpR_early; (case ho => (simp only [List.getElem?_toArray, List.getElem?_cons_succ, List.getElem?_cons_zero]; try exact rfl)); (case hw => rfl); (case hl => rfl); (case hsp => rfl); (case he => rfl); (case hv => (intro w' hw'; (try have hw2 := Ext.trans hEW hw'); go_simp; exact rfl)); simp only [Act.put, List.setIfInBounds_toArray, List.set_cons_succ, List.set_cons_zero]) | (apply wpR_pass; (case ho => (simp only [List.getElem?_toArray, List.getElem?_cons_succ, List.getElem?_cons_zero]; try exact rfl)); (case hw => rfl); (case hl => rfl); simp only [Act.put, List.setIfInBounds_toArray, List.set_cons_succ, List.set_cons_zero]))
      apply wpR_nil
      apply hN
      intro w9 hE' hK hF
      have hEn := hXb w9 hE'
      have hk := (hK 11).2
      obtain ⟨hq1, hq2, hq3, hG1, hG2⟩ : PgV w9 (.agg #[.int .i64 la.kind, .int .i64 la.level, .slice iA7 la.items.length ic7, .slice dA7 la.data.length dc7, .int .i64 la.next]) la ∧ PgV w9 (.agg #[.int .i64 lb.kind, .int .i64 lb.level, .slice iA8 lb.items.length ic8, .slice dA8 lb.data.length dc8, .int .i64 lb.next]) lb ∧ Sl w9 lA lc ls ∧ w9.heap[g7]? = some (.cells #[.int .i64 la.kind, .int .i64 la.level, .slice iA7 la.items.length ic7, .slice dA7 la.data.length dc7, .int .i64 la.next] 26) ∧ w9.heap[g8]? = some (.cells #[.int .i64 lb.kind, .int .i64 lb.level, .slice iA8 lb.items.length ic8, .slice dA8 lb.data.length dc8, .int .i64 lb.next] 26) := by
        obtain ⟨v1, v2, A9, c9, e, o1, o2, os⟩ := hk
        have e' : Value.tuple #[.agg #[.int .i64 la.kind, .int .i64 la.level, .slice iA7 la.items.length ic7, .slice dA7 la.data.length dc7, .int .i64 la.next], .agg #[.int .i64 lb.kind, .int .i64 lb.level, .slice iA8 lb.items.length ic8, .slice dA8 lb.data.length dc8, .int .i64 lb.next], .slice lA ls.length lc, .bool lz] = .tuple #[v1, v2, .slice A9 ls.length c9, .bool lz] := e
        simp only [Value.tuple.injEq, Array.mk.injEq, List.cons.injEq, Value.slice.injEq, and_true, true_and] at e'
        obtain ⟨rfl, rfl, rfl, rfl⟩ := e'
        obtain ⟨s1, s2, _⟩ := hF
        obtain ⟨_, _, x1, x2, x3, x4⟩ := s1
        obtain rfl := ptr_inj x1
        have x3' : Value.agg #[.int .i64 la.kind, .int .i64 la.level, .slice iA7 la.items.length ic7, .slice dA7 la.data.length dc7, .int .i64 la.next] = _ := x3
        injection x3' with x3'
        subst x3'
        obtain ⟨_, _, y1, y2, y3, y4⟩ := s2
        obtain rfl := ptr_inj y1
        have y3' : Value.agg #[.int .i64 lb.kind, .int .i64 lb.level, .slice iA8 lb.items.length ic8, .slice dA8 lb.data.length dc8, .int .i64 lb.next] = _ := y3
        injection y3' with y3'
        subst y3'
        exact ⟨o1.pgv hlm.a, o2.pgv hlm.b, os.sl hlm.c, x4, y4⟩
      have HG7 := Lib.hid hG1
      have HG8 := Lib.hid hG2
      clear hG1 hG2
      clear hk hK hN hF t0 t1 t2 t3 t4 t5 t6 t7 t8 t9 t10 t11 hX hXb hEW hE' hW hF0 hw0
      replace HT := Lib.hid (hEn.blk HT.out)
      replace HI := Lib.hid (hEn.blk HI.out)
      replace hU1 := hU1.ext hEn
      replace hU2 := hU2.ext hEn
      replace hE := hE.trans hEn
      clear hEn
      have cg70 := cell_of_row w9 g7 0 _ _ _ HG7.out
      have cg71 := cell_of_row w9 g7 1 _ _ _ HG7.out
      have cg72 := cell_of_row w9 g7 2 _ _ _ HG7.out
      have cg73 := cell_of_row w9 g7 3 _ _ _ HG7.out
      have cg74 := cell_of_row w9 g7 4 _ _ _ HG7.out
      simp only [List.getElem?_toArray, List.getElem?_cons_zero, List.getElem?_cons_succ] at cg70 cg71 cg72 cg73 cg74
      have cg80 := cell_of_row w9 g8 0 _ _ _ HG8.out
      have cg81 := cell_of_row w9 g8 1 _ _ _ HG8.out
      have cg82 := cell_of_row w9 g8 2 _ _ _ HG8.out
      have cg83 := cell_of_row w9 g8 3 _ _ _ HG8.out
      have cg84 := cell_of_row w9 g8 4 _ _ _ HG8.out
      simp only [List.getElem?_toArray, List.getElem?_cons_zero, List.getElem?_cons_succ] at cg80 cg81 cg82 cg83 cg84
      cases lz
      · go_wp2
        go_ret
        exact ⟨rfl, hE⟩
      have HEQ := Lib.hid (show foundB la lb ls key = foundB p q sep key by
        refine HFL.out la lb ls ?_
        have h1 := HLA.out
        have h2 := HLB.out
        have h3 := HLS.out
        have h4 := HLZ.out
        cases h : lendB p q sep toR with
        | none => rw [h] at h4; cases h4
        | some r =>
          rw [h] at h1 h2 h3
          obtain ⟨a, b, s⟩ := r
          obtain rfl : a = la := h1
          obtain rfl : b = lb := h2
          obtain rfl : s = ls := h3
          rfl)
      go_wp2_with fail
      clear cg70 cg71 cg72 cg73 cg74 cg80 cg81 cg82 cg83 cg84
      refine (found_any hq1 hq2 hq3 rfl (hk.ext hE) rfl).mono ?_
      rintro e w10 ⟨u, rfl, hU, hE10⟩
      rw [HEQ.out, HFI1.out] at hU
      rw [HEQ.out, HFH.out]
      obtain ⟨kA6, kc6, vA6, vc6, rfl, hU3, hU4⟩ := hU.ex
      clear hU hq1 hq2 hq3
      replace HT := Lib.hid (hE10.blk HT.out)
      replace HI := Lib.hid (hE10.blk HI.out)
      replace HG7 := Lib.hid (hE10.blk HG7.out)
      replace HG8 := Lib.hid (hE10.blk HG8.out)
      replace hU1 := hU1.ext hE10
      replace hU2 := hU2.ext hE10
      replace hE := hE.trans hE10
      clear hE10
      have hx := ext_alloc w10 (.cells #[.slice kA6 fi.key.length kc6, .slice vA6 fi.val.length vc6, .int .i64 fi.ch, .int .i64 fi.sz] 51)
      have HJ := Lib.hid (heap_alloc_new w10 (.cells #[.slice kA6 fi.key.length kc6, .slice vA6 fi.val.length vc6, .int .i64 fi.ch, .int .i64 fi.sz] 51))
      replace HT := Lib.hid (hx.blk HT.out)
      replace HI := Lib.hid (hx.blk HI.out)
      replace HG7 := Lib.hid (hx.blk HG7.out)
      replace HG8 := Lib.hid (hx.blk HG8.out)
      replace hU1 := hU1.ext hx
      replace hU2 := hU2.ext hx
      replace hU3 := hU3.ext hx
      replace hU4 := hU4.ext hx
      replace hE := hE.trans hx
      clear hx
      have ci0 := cell_of_row (w10.alloc (.cells #[.slice kA6 fi.key.length kc6, .slice vA6 fi.val.length vc6, .int .i64 fi.ch, .int .i64 fi.sz] 51)) b5 0 _ _ _ HI.out
      have ci1 := cell_of_row (w10.alloc (.cells #[.slice kA6 fi.key.length kc6, .slice vA6 fi.val.length vc6, .int .i64 fi.ch, .int .i64 fi.sz] 51)) b5 1 _ _ _ HI.out
      have ci2 := cell_of_row (w10.alloc (.cells #[.slice kA6 fi.key.length kc6, .slice vA6 fi.val.length vc6, .int .i64 fi.ch, .int .i64 fi.sz] 51)) b5 2 _ _ _ HI.out
      have ci3 := cell_of_row (w10.alloc (.cells #[.slice kA6 fi.key.length kc6, .slice vA6 fi.val.length vc6, .int .i64 fi.ch, .int .i64 fi.sz] 51)) b5 3 _ _ _ HI.out
      simp only [List.getElem?_toArray, List.getElem?_cons_zero, List.getElem?_cons_succ] at ci0 ci1 ci2 ci3
      go_wp2_with fail
      clear ci0 ci1 ci2 ci3
      refine (eqItem_any (x := fi) (y := fi) hU1 hU2 hU3 hU4 rfl rfl rfl rfl rfl rfl rfl rfl).mono ?_
      rintro e w11 ⟨rfl, hE11⟩
      rw [show eqIt fi fi = true by simp [eqIt]]
      have hEE := hE.trans hE11
      clear hE hE11
      go_wp2
      go_ret
      exact ⟨rfl, hEE⟩
end Go.Proofs.Ytjjbckdiojleeaa
