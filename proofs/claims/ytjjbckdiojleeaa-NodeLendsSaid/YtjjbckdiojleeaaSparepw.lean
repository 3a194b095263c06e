/- Contract of SparePage. No condition but that what comes in lies in memory. -/
import Derived.Test.YtjjbckdiojleeaaSparepg
namespace Go.Proofs.Ytjjbckdiojleeaa
set_option linter.unusedVariables false
open Go.RowKit Go.Proofs
theorem zeros_succ (m : Nat) : zeros (m + 1) = zIt ++ zeros m := rfl
/-- What is known behind the first region of SparePage. -/
structure SpA (w0 w : World) (p : Pg) (iA dA : Option Addr) (ic dc g gd : Nat) : Prop where
  e : Ext w0 w
  b0 : w.heap[w0.heap.size]? = some (.cells #[.int .i64 p.kind, .int .i64 p.level, .slice iA p.items.length ic, .slice dA p.data.length dc, .int .i64 p.next] 26)
  b1 : w.heap[w0.heap.size + 1]? = some (.cells #[.int .i64 0, .int .i64 0, .slice none 0 0, .slice none 0 0, .int .i64 0] 26)
  b2 : w.heap[g]? = some (.cells #[.int .i64 p.kind, .int .i64 p.level, .slice none 0 0, .slice (some ⟨gd, 0, none⟩) p.data.length (p.data.length + 64), .int .i64 p.next] 26)
  g2 : w0.heap.size + 2 ≤ g
  d : Spared w gd p.data
theorem SpBy.low {B : Nat} {bs : List UInt8} {v : Value} {w : World} (h : SpBy B bs v w) : SpBy 0 bs v w := by
  obtain ⟨g, h1, _, h3⟩ := h
  exact ⟨g, h1, Nat.zero_le _, h3⟩
theorem SpEach.low {B : Nat} {w : World} : ∀ {ps : List (Value × Value)} {xs : List It}, SpEach B w ps xs → SpEach 0 w ps xs
  | [], [], _ => trivial
  | p :: ps, x :: xs, h => ⟨h.1.low, h.2.1.low, SpEach.low h.2.2⟩
  | [], x :: xs, h => h.elim
  | p :: ps, [], h => h.elim
theorem SpA.exc {D : Nat → Obj → Prop} {w0 w w' : World} {p : Pg} {iA dA : Option Addr} {ic dc g gd : Nat} (h : SpA w0 w p iA dA ic dc g gd) (hx : Exc D w w') (hd : ∀ q, q ≤ g → ∀ o, ¬ D q o) (hd2 : ∀ q cs, w.heap[q]? = some (.cells cs 5 (0, 0)) → ¬ D q (.cells cs 5 (0, 0))) (hd3 : ∀ k o, D k o → w0.heap.size ≤ k) : SpA w0 w' p iA dA ic dc g gd :=
  ⟨hx.to_ext h.e hd3, hx.blk h.b0 (hd _ (by have := h.g2; omega) _), hx.blk h.b1 (hd _ (by have := h.g2; omega) _), hx.blk h.b2 (hd _ (Nat.le_refl _) _), h.g2, hx.blk h.d (hd2 _ _ h.d)⟩
theorem SpA.ext {w0 w w' : World} {p : Pg} {iA dA : Option Addr} {ic dc g gd : Nat} (h : SpA w0 w p iA dA ic dc g gd) (he : Ext w w') : SpA w0 w' p iA dA ic dc g gd :=
  ⟨h.e.trans he, he.blk h.b0, he.blk h.b1, he.blk h.b2, h.g2, Blk.ext h.d he⟩
set_option maxHeartbeats 2000000 in
theorem sparePage_any {v : Value} {p : Pg} {w : World} (hv : PgV w v p) :
    Calls Try.prog 13 #[v] w fun e w' => ∃ v', e = .returned v' ∧ SpPg w' v' p ∧ Ext w w' := by
  obtain ⟨iA, ic, dA, dc, rfl, hi, hd⟩ := hv.ex
  clear hv
  obtain ⟨i0, hii, hz0, hz1, hz2⟩ := info_parts infoItem
  have hil := hi.len
  go_enter Try.func13, Try.ntmps13
  go_wp2
  refine wp_cut (fun W => Ext w W ∧ W.heap[w.heap.size]? = some (.cells #[.int .i64 p.kind, .int .i64 p.level, .slice iA p.items.length ic, .slice dA p.data.length dc, .int .i64 p.next] 26) ∧
    W.heap[w.heap.size + 1]? = some (.cells #[.int .i64 0, .int .i64 0, .slice none 0 0, .slice none 0 0, .int .i64 0] 26)) ⟨(ext_alloc _ _).trans (ext_alloc _ _), heap_alloc2_old _ _ _, heap_alloc2_new _ _ _⟩ ?_
  rintro w1 ⟨hE, hb1, hb2⟩
  have hsz := (Array.getElem?_eq_some_iff.1 hb2).1
  refine wp_region_rg (Exc (PgBlk w1.heap.size)) (rel_exc _) (fun _ => True) [0, 1, 2, 3, 4, 5, 6, 7, 8, 9, 10, 11] (fun i => match i with
    | 6 => some fun _ => SpBy w1.heap.size p.data
    | _ => none) (fun i => match i with
    | 10 => some fun _ v w' => ∃ g, v = .pointer (some ⟨g, 0, none⟩) ∧ w1.heap.size ≤ g ∧ w'.heap[g]? = some (.cells #[.int .i64 0, .int .i64 0, .slice none 0 0, .slice none 0 0, .int .i64 0] 26)
    | 11 => some fun V _ w' => ∃ g, V 10 = .pointer (some ⟨g, 0, none⟩) ∧ w1.heap.size ≤ g ∧ w'.heap[g]? = some (.cells #[.int .i64 p.kind, .int .i64 p.level, .slice none 0 0, V 6, .int .i64 p.next] 26)
    | _ => none) (fun _ => false) (by kernel_rfl) (by kernel_rfl) (fun _ _ h he => trivial) trivial (fun W N hW hF0 hN => ?_)
  have hEW : Exc (PgBlk w1.heap.size) w1 W := Exc.of_ext hW
  have e0 : ∀ w', Exc (PgBlk w1.heap.size) w1 w' → w'.cell? ⟨w.heap.size, 0, none⟩ = some (.int .i64 p.kind) := fun w' h => cell_of_row _ _ _ _ _ _ (h.blk hb1 (PgBlk.notLt (by omega)))
  have e1 : ∀ w', Exc (PgBlk w1.heap.size) w1 w' → w'.cell? ⟨w.heap.size, 1, none⟩ = some (.int .i64 p.level) := fun w' h => cell_of_row _ _ _ _ _ _ (h.blk hb1 (PgBlk.notLt (by omega)))
  have e3 : ∀ w', Exc (PgBlk w1.heap.size) w1 w' → w'.cell? ⟨w.heap.size, 3, none⟩ = some (.slice dA p.data.length dc) := fun w' h => cell_of_row _ _ _ _ _ _ (h.blk hb1 (PgBlk.notLt (by omega)))
  have e4 : ∀ w', Exc (PgBlk w1.heap.size) w1 w' → w'.cell? ⟨w.heap.size, 4, none⟩ = some (.int .i64 p.next) := fun w' h => cell_of_row _ _ _ _ _ _ (h.blk hb1 (PgBlk.notLt (by omega)))
  have hX : ∀ w', Exc (PgBlk w1.heap.size) W w' → Ext w w' := fun w' h => (Exc.trans hEW h).to_ext hE (fun k _ hk => by have := hk.1; have := hE.size; omega)
  repeat (first | (apply wpR_one; (case ho => (simp only [List.getElem?_toArray, List.getElem?_cons_succ, List.getElem?_cons_zero]; try exact rfl)); (case hw => rfl); (case hl => rfl); (case hsp => rfl); (case he => rfl); (case hv => (intro w' hw'; (try (have hw2 := Ext.trans hEW hw')); (try (have hw3 := Exc.trans hEW hw')); (try (have hw4 := Exk.trans hEW hw')); (try (have hw5 := Mrk.trans hEW hw')); go_simp; exact rfl)); (case hw0 => (first | exact Below.refl _ _ | exact Exc.of_ext (Below.refl _ _) | exact Exk.of_ext (Below.refl _ _) | exact Mrk.of_ext (Below.refl _ _))); simp only [Act.put, List.setIfInBounds_toArray, List.set_cons_succ, List.set_cons_zero]) | (apply wpR_early; (case ho => (simp only [List.getElem?_toArray, List.getElem?_cons_succ, List.getElem?_cons_zero]; try exact rfl)); (case hw => rfl); (case hl => rfl); (case hsp => rfl); (case he => rfl); (case hv => (intro w' hw'; (try have hw2 := Ext.trans hEW hw'); go_simp; exact rfl)); simp only [Act.put, List.setIfInBounds_toArray, List.set_cons_succ, List.set_cons_zero]) | (apply wpR_pass; (case ho => (simp only [List.getElem?_toArray, List.getElem?_cons_succ, List.getElem?_cons_zero]; try exact rfl)); (case hw => rfl); (case hl => rfl); simp only [Act.put, List.setIfInBounds_toArray, List.set_cons_succ, List.set_cons_zero]))
  refine wpR_new (by ((simp only [List.getElem?_toArray, List.getElem?_cons_succ, List.getElem?_cons_zero]; try exact rfl))) _ rfl rfl rfl (fun V v => SpBy.exc (fun k cs _ => PgBlk.not8) _ _) (fun V V' h => rfl) (fun w' hw' hK => ?_) (fun v hv => ?_)
  · unfold opAt; go_simp; refine upAt_enter ?_
    refine (spare_any (hd.ext (hX w' hw'))).mono ?_
    rintro e w2 ⟨g, rfl, hg, hs, hE2⟩
    exact ⟨_, rfl, hE2, g, rfl, by have := (hEW.trans hw').size; omega, hs⟩
  obtain ⟨gd, rfl⟩ : ∃ g, v = .slice (some ⟨g, 0, none⟩) p.data.length (p.data.length + 64) := by
    obtain ⟨_, _, _, g, h, _⟩ := hv
    exact ⟨g, h⟩
  clear hv
  simp only [Act.put, List.setIfInBounds_toArray, List.set_cons_succ, List.set_cons_zero]
  repeat (first | (apply wpR_one; (case ho => (simp only [List.getElem?_toArray, List.getElem?_cons_succ, List.getElem?_cons_zero]; try exact rfl)); (case hw => rfl); (case hl => rfl); (case hsp => rfl); (case he => rfl); (case hv => (intro w' hw'; (try (have hw2 := Ext.trans hEW hw')); (try (have hw3 := Exc.trans hEW hw')); (try (have hw4 := Exk.trans hEW hw')); (try (have hw5 := Mrk.trans hEW hw')); go_simp; exact rfl)); (case hw0 => (first | exact Below.refl _ _ | exact Exc.of_ext (Below.refl _ _) | exact Exk.of_ext (Below.refl _ _) | exact Mrk.of_ext (Below.refl _ _))); simp only [Act.put, List.setIfInBounds_toArray, List.set_cons_succ, List.set_cons_zero]) | (apply wpR_early; (case ho => (simp only [List.getElem?_toArray, List.getElem?_cons_succ, List.getElem?_cons_zero]; try exact rfl)); (case hw => rfl); (case hl => rfl); (case hsp => rfl); (case he => rfl); (case hv => (intro w' hw'; (try have hw2 := Ext.trans hEW hw'); go_simp; exact rfl)); simp only [Act.put, List.setIfInBounds_toArray, List.set_cons_succ, List.set_cons_zero]) | (apply wpR_pass; (case ho => (simp only [List.getElem?_toArray, List.getElem?_cons_succ, List.getElem?_cons_zero]; try exact rfl)); (case hw => rfl); (case hl => rfl); simp only [Act.put, List.setIfInBounds_toArray, List.set_cons_succ, List.set_cons_zero]))
  refine wpR_late (by ((simp only [List.getElem?_toArray, List.getElem?_cons_succ, List.getElem?_cons_zero]; try exact rfl))) _ rfl rfl (fun V v w' w2 ⟨g, h1, h2, h3⟩ he => ⟨g, h1, h2, he.blk h3⟩) (fun V V' h => rfl) (fun w' hw' hK hF => ?_) (fun v hv => ?_)
  · unfold opAt
    go_simp
    refine upAt_value ⟨Exc.of_ext (ext_alloc _ _), _, rfl, (hEW.trans hw').size, heap_alloc_new _ _⟩
  obtain ⟨g, rfl⟩ : ∃ g, v = .pointer (some ⟨g, 0, none⟩) := by
    obtain ⟨_, _, g, h, _⟩ := hv
    exact ⟨g, h⟩
  clear hv
  simp only [Act.put, List.setIfInBounds_toArray, List.set_cons_succ, List.set_cons_zero]
  refine wpR_late (by ((simp only [List.getElem?_toArray, List.getElem?_cons_succ, List.getElem?_cons_zero]; try exact rfl))) _ rfl rfl (fun V v w' w2 ⟨g, h1, h2, h3⟩ he => ⟨g, h1, h2, he.blk h3⟩) (fun V V' h => by simp only [h 6 (by kernel_rfl), h 10 (by kernel_rfl)]) (fun w' hw' hK hF => ?_) (fun v hv => ?_)
  · obtain ⟨g', hg1, hg2, hg3⟩ := hF
    injection hg1 with hg1
    injection hg1 with hg1
    injection hg1 with hg1
    subst hg1
    refine opAt_list rfl #[] (fun Q hQ => ?_)
    refine wpList_store_box rfl 26 _ _ rfl g _ rfl rfl 26 _ hg3 (by kernel_rfl) rfl (by simp [Value.oneCell']) (fun w2 hb hg => ?_)
    exact hQ _ _ ⟨Exc.of_only hg (fun o ho => by rw [hg3] at ho; injection ho with ho; subst ho; exact ⟨hg2, _, _, rfl⟩), g, rfl, hg2, hb⟩
  clear hv
  apply wpR_nil
  apply hN
  intro w2 hE' hK hF
  have hA : SpA w w2 p iA dA ic dc g gd := by
    obtain ⟨g', hg1, hg2, hg3⟩ := hF
    injection hg1 with hg1
    injection hg1 with hg1
    injection hg1 with hg1
    subst hg1
    obtain ⟨gd', hd1, _, hd2⟩ := (hK 6).2
    injection hd1 with hd1
    injection hd1 with hd1
    injection hd1 with hd1
    subst hd1
    exact ⟨hX w2 hE', (hEW.trans hE').blk hb1 (PgBlk.notLt (by omega)), (hEW.trans hE').blk hb2 (PgBlk.notLt hsz), hg3, by omega, hd2⟩
  clear hK hN hF e0 e1 e3 e4 hX hEW hE' hW hb1 hb2 hE hsz
  have c2 : w2.cell? ⟨w.heap.size, 2, none⟩ = some (.slice iA p.items.length ic) := cell_of_row _ _ _ _ _ _ hA.b0
  go_wp2_with (at_make; refine wpList_make_any _ rfl _ _ 23 rfl 51 i0 _ 4 Try.underlying23 hii hz0 hz1 _ _ _ _ (p.items.length + 2) (p.items.length + 2) rfl rfl (by omega) (by omega) (Nat.le_refl _) (by rw [hz2]; omega) (by omega) ?_; intro w3 hb3 hgrow3)
  have hb3' : w3.heap[w2.heap.size]? = some (.cells (zeros (p.items.length + 2)).toArray 51 (0, 0)) := by rw [hb3, made_zeros]
  have hE3 : Ext w2 w3 := ext_make hgrow3
  have hA3 := hA.ext hE3
  obtain ⟨gi, hgi⟩ : ∃ gi, w2.heap.size = gi := ⟨_, rfl⟩
  rw [hgi] at hb3'
  have hlt3 : w2.heap.size < w3.heap.size := (Array.getElem?_eq_some_iff.1 (by rw [← hgi] at hb3'; exact hb3')).1
  have hg0 : g < gi := by rw [← hgi]; exact (Array.getElem?_eq_some_iff.1 hA.b2).1
  have hgw : w.heap.size + 2 ≤ gi := by have := hA.g2; omega
  have hi3 : gi < w3.heap.size := by rw [← hgi]; exact hlt3
  clear hb3 hgrow3 c2 hE3 hA hlt3
  rw [hgi]
  clear hgi
  go_loopw [5] (fun i wr => ∃ (pre suf : List It) (m : Nat) (ps : List (Value × Value)), p.items = pre ++ suf ∧ (suf = [] ∨ m = 0) ∧ m ≤ 2 ∧ i = .int .i64 ((pre.length + m : Nat) : Int) ∧ SpA w wr p iA dA ic dc g gd ∧ SpEach (gi + 1) wr ps pre ∧
    wr.heap[gi]? = some (.cells (rowCells ps pre ++ markIts pre.length m ++ zeros (suf.length + (2 - m))).toArray 51 (0, 0))) (fun i _ => p.items.length + 2 - (intOf i).toNat)
  case atStart => exact ⟨[], p.items, 0, [], rfl, .inr rfl, by omega, rfl, hA3, trivial, by simpa [rowCells, markIts] using hb3'⟩
  case round =>
    clear hA3 hb3' hi3
    obtain ⟨pre, suf, m, ps, hsp, hsm, hm, rfl, hA, hS, hblk⟩ := hrel
    cases suf with
    | nil =>
      rw [List.append_nil] at hsp
      subst hsp
      have c2 : wr.cell? ⟨w.heap.size, 2, none⟩ = some (.slice iA p.items.length ic) := cell_of_row _ _ _ _ _ _ hA.b0
      obtain ⟨k, hk⟩ : ∃ k, p.items.length + m = k := ⟨_, rfl⟩
      by_cases hm2 : m = 2
      · subst hm2
        have hkl : p.items.length + 2 ≤ k := by omega
        have hkg : k ≤ p.items.length + 2 := by omega
        have hA0 := hA
        obtain ⟨hE, b0, b1, b2, g2, hds⟩ := hA
        have a0 : wr.cell? ⟨g, 0, none⟩ = some (.int .i64 p.kind) := cell_of_row _ _ _ _ _ _ b2
        have a1 : wr.cell? ⟨g, 1, none⟩ = some (.int .i64 p.level) := cell_of_row _ _ _ _ _ _ b2
        have a2 : wr.cell? ⟨g, 2, none⟩ = some (.slice none 0 0) := cell_of_row _ _ _ _ _ _ b2
        have a3 : wr.cell? ⟨g, 3, none⟩ = some (.slice (some ⟨gd, 0, none⟩) p.data.length (p.data.length + 64)) := cell_of_row _ _ _ _ _ _ b2
        have a4 : wr.cell? ⟨g, 4, none⟩ = some (.int .i64 p.next) := cell_of_row _ _ _ _ _ _ b2
        have af : wr.frozen? ⟨g, 2, none⟩ = false := frozen_of_row wr g 2 _ _ b2
        have b1' := blk_setCell_other b1 (g' := g) 2 (.slice (some ⟨gi, 0, none⟩) p.items.length (p.items.length + 2)) (by omega)
        have hb' := blk_setCell_other hblk (g' := g) 2 (.slice (some ⟨gi, 0, none⟩) p.items.length (p.items.length + 2)) (by omega)
        have hE' : Ext w (wr.setCell ⟨g, 2, none⟩ (.slice (some ⟨gi, 0, none⟩) p.items.length (p.items.length + 2))) := ext_store hE (by simp; omega) _
        have hS' := SpEach.exc (D := fun q _ => q = g) (setCell_exc wr g 2 (.slice (some ⟨gi, 0, none⟩) p.items.length (p.items.length + 2))) (fun q cs h1 h2 => by omega) hS
        have hds' : Spared (wr.setCell ⟨g, 2, none⟩ (.slice (some ⟨gi, 0, none⟩) p.items.length (p.items.length + 2))) gd p.data := blk_setCell_other hds 2 _ (fun e => by
          subst e
          have := hds.symm.trans b2
          injection this with this
          injection this with _ h
          exact absurd h (by decide))
        have HK := Lib.hid hk
        clear hk hsm hm hblk hS hA0 b0 b2 b1 hds
        go_wp2_with (refine wpList_store_box rfl 26 _ _ rfl (w.heap.size + 1) _ rfl rfl 26 _ b1' (by kernel_rfl) rfl (by simp [Value.oneCell']) (fun w4 hb hg => ?_))
        have hX := Exc.of_only (D := fun q _ => q = w.heap.size + 1) hg (fun _ _ => rfl)
        have hbf : w4.heap[gi]? = some (.cells (rowCells ps p.items ++ markIts p.items.length 2).toArray 51 (0, 0)) := by
          have := blk_other hb' hg (by omega)
          simpa [zeros] using this
        exact bodyPost_ret (results_cell_row rfl _ _ _ _ _ _ _ rfl hb Try.underlying26 rfl (by kernel_rfl)) rfl
          ⟨_, rfl, ⟨gi, ps, gd, rfl, hbf, (SpEach.exc hX (fun q cs h1 h2 => by omega) hS').low, blk_other hds' hg (fun e => by
            subst e
            have := hds'.symm.trans b1'
            injection this with this
            injection this with _ h
            exact absurd h (by decide))⟩, ext_only hE' hg (by omega)⟩
      · have hm1 : m ≤ 1 := by omega
        have hk1 : p.items.length ≤ k := by omega
        have hk2 : k < p.items.length + 2 := by omega
        have hpre : (rowCells ps p.items ++ markIts p.items.length m).length = k * 4 := by
          rw [List.length_append, length_rowCells ps p.items hS.length, length_markIts]; omega
        have hblk2 : wr.heap[gi]? = some (.cells ((rowCells ps p.items ++ markIts p.items.length m) ++ zIt ++ zeros (1 - m)).toArray 51 (0, 0)) := by
          rw [hblk]
          congr 3
          rw [List.length_nil, Nat.zero_add, show 2 - m = (1 - m) + 1 by omega, zeros_succ]
          simp
        have HK := Lib.hid hk
        rw [hk]
        have HP := Lib.hid hpre
        clear hk hpre hblk
        go_wp2_with (refine wpList_store_part rfl 51 _ _ rfl gi _ (markIt k) _ zIt _ rfl rfl 51 hblk2 (by rw [HP.out]) rfl (by kernel_rfl) (by simp [markIt, Value.oneCell']) (fun w4 hb hg => ?_))
        have hX := Exc.of_only (D := fun q _ => q = gi) hg (fun _ _ => rfl)
        go_roundw
        case rel =>
          refine ⟨p.items, [], m + 1, ps, by simp, .inl rfl, by omega, by rw [show p.items.length + (m + 1) = k + 1 by have := HK.out; omega]; go_num, hA.exc hX (fun q h o => by omega) (fun q cs h e => ?_) (fun q o h => by omega), SpEach.exc hX (fun q cs h1 h2 => by omega) hS, ?_⟩
          · subst e
            have := h.symm.trans hblk2
            injection this with this
            injection this with _ h
            exact absurd h (by decide)
          · rw [hb]
            congr 3
            rw [List.length_nil, Nat.zero_add, show 2 - (m + 1) = 1 - m by omega, markIts, HK.out]
            simp
        case measure => simp [intOf]; omega
    | cons x suf =>
      have hm0 : m = 0 := by
        rcases hsm with h | h
        · cases h
        · exact h
      subst hm0
      rw [Nat.add_zero]
      have hx := split_at hsp
      have hlt : pre.length < p.items.length := by rw [hsp]; simp
      have HS := Lib.hid hsp
      obtain ⟨b, o, rfl, hcx⟩ := hi.rd (by omega)
      obtain ⟨kA, kc, vA, vc, x0, x1, x2, x3, xk, xv⟩ := hcx _ x hx
      have hpre : (rowCells ps pre).length = pre.length * 4 := length_rowCells ps pre hS.length
      have hblk2 : wr.heap[gi]? = some (.cells (rowCells ps pre ++ zIt ++ zeros (suf.length + 2)).toArray 51 (0, 0)) := by
        rw [hblk]
        congr 3
        rw [List.length_cons, show suf.length + 1 + (2 - 0) = (suf.length + 2) + 1 by omega, zeros_succ]
        simp [markIts]
      have c2 : wr.cell? ⟨w.heap.size, 2, none⟩ = some (.slice (some ⟨b, o, none⟩) p.items.length ic) := cell_of_row _ _ _ _ _ _ hA.b0
      clear hx hcx hsp hsm hm hblk
      have HP := Lib.hid hpre
      clear hpre
      have hE := hA.e
      go_wp2
      have hX : ∀ w', Exc (fun q _ => q = gi) wr w' → Ext w w' := fun w' h => h.to_ext hE (fun k _ hk => by omega)
      have ec : ∀ w', Exc (fun q _ => q = gi) wr w' → w'.cell? ⟨w.heap.size, 2, none⟩ = some (.slice (some ⟨b, o, none⟩) p.items.length ic) := fun w' h => cell_of_row _ _ _ _ _ _ (h.blk hA.b0 (by omega))
      have ex0 : ∀ w', Exc (fun q _ => q = gi) wr w' → _ := fun w' h => (hX w' h).cell x0
      have ex1 : ∀ w', Exc (fun q _ => q = gi) wr w' → _ := fun w' h => (hX w' h).cell x1
      have ex2 : ∀ w', Exc (fun q _ => q = gi) wr w' → _ := fun w' h => (hX w' h).cell x2
      have ex3 : ∀ w', Exc (fun q _ => q = gi) wr w' → _ := fun w' h => (hX w' h).cell x3
      clear x0 x1 x2 x3 c2 hE
      have hgl : gi < wr.heap.size := (Array.getElem?_eq_some_iff.1 hblk2).1
      refine wp_region_rg (Exc (fun q _ => q = gi)) (rel_exc _) (fun w' => w'.heap[gi]? = some (.cells (rowCells ps pre ++ zIt ++ zeros (suf.length + 2)).toArray 51 (0, 0))) [0, 1, 2, 3, 4, 5, 6, 7, 8, 9, 10, 11, 12, 13, 14, 15, 16, 17, 18, 19, 20, 21, 22, 23, 24, 25, 26, 27, 28, 29, 30] (fun i => match i with
        | 8 => some fun _ => SpBy (gi + 1) x.key
        | 15 => some fun _ => SpBy (gi + 1) x.val
        | _ => none) (fun i => match i with
        | 30 => some fun V _ w' => w'.heap[gi]? = some (.cells (rowCells ps pre ++ [V 8, V 15, .int .i64 x.ch, .int .i64 x.sz] ++ zeros (suf.length + 2)).toArray 51 (0, 0))
        | _ => none) (fun _ => false) (by kernel_rfl) (by kernel_rfl) (fun _ _ h he => he.blk h) hblk2 (fun W N hW hF0 hN => ?_)
      have hEW : Exc (fun q _ => q = gi) wr W := Exc.of_ext hW
      repeat (first | (apply wpR_one; (case ho => (simp only [List.getElem?_toArray, List.getElem?_cons_succ, List.getElem?_cons_zero]; try exact rfl)); (case hw => rfl); (case hl => rfl); (case hsp => rfl); (case he => rfl); (case hv => (intro w' hw'; (try (have hw2 := Ext.trans hEW hw')); (try (have hw3 := Exc.trans hEW hw')); (try (have hw4 := Exk.trans hEW hw')); (try (have hw5 := Mrk.trans hEW hw')); go_simp; exact rfl)); (case hw0 => (first | exact Below.refl _ _ | exact Exc.of_ext (Below.refl _ _) | exact Exk.of_ext (Below.refl _ _) | exact Mrk.of_ext (Below.refl _ _))); simp only [Act.put, List.setIfInBounds_toArray, List.set_cons_succ, List.set_cons_zero]) | (apply wpR_early; (case ho => (simp only [List.getElem?_toArray, List.getElem?_cons_succ, List.getElem?_cons_zero]; try exact rfl)); (case hw => rfl); (case hl => rfl); (case hsp => rfl); (case he => rfl); (case hv => (intro w' hw'; (try have hw2 := Ext.trans hEW hw'); go_simp; exact rfl)); simp only [Act.put, List.setIfInBounds_toArray, List.set_cons_succ, List.set_cons_zero]) | (apply wpR_pass; (case ho => (simp only [List.getElem?_toArray, List.getElem?_cons_succ, List.getElem?_cons_zero]; try exact rfl)); (case hw => rfl); (case hl => rfl); simp only [Act.put, List.setIfInBounds_toArray, List.set_cons_succ, List.set_cons_zero]))
      refine wpR_new (by ((simp only [List.getElem?_toArray, List.getElem?_cons_succ, List.getElem?_cons_zero]; try exact rfl))) _ rfl rfl rfl (fun V v => SpBy.exc (fun k cs h1 h2 => by omega) _ _) (fun V V' h => rfl) (fun w' hw' hK => ?_) (fun v hv => ?_)
      · unfold opAt; go_simp; refine upAt_enter ?_
        refine (spare_any (xk.ext (hX w' (hEW.trans hw')))).mono ?_
        rintro e w2 ⟨g, rfl, hg, hs, hE2⟩
        exact ⟨_, rfl, hE2, g, rfl, by have := (hEW.trans hw').size; omega, hs⟩
      obtain ⟨gk, rfl⟩ : ∃ g, v = .slice (some ⟨g, 0, none⟩) x.key.length (x.key.length + 64) := by
        obtain ⟨_, _, _, g, h, _⟩ := hv
        exact ⟨g, h⟩
      clear hv
      simp only [Act.put, List.setIfInBounds_toArray, List.set_cons_succ, List.set_cons_zero]
      repeat (first | (apply wpR_one; (case ho => (simp only [List.getElem?_toArray, List.getElem?_cons_succ, List.getElem?_cons_zero]; try exact rfl)); (case hw => rfl); (case hl => rfl); (case hsp => rfl); (case he => rfl); (case hv => (intro w' hw'; (try (have hw2 := Ext.trans hEW hw')); (try (have hw3 := Exc.trans hEW hw')); (try (have hw4 := Exk.trans hEW hw')); (try (have hw5 := Mrk.trans hEW hw')); go_simp; exact rfl)); (case hw0 => (first | exact Below.refl _ _ | exact Exc.of_ext (Below.refl _ _) | exact Exk.of_ext (Below.refl _ _) | exact Mrk.of_ext (Below.refl _ _))); simp only [Act.put, List.setIfInBounds_toArray, List.set_cons_succ, List.set_cons_zero]) | (apply wpR_early; (case ho => (simp only [List.getElem?_toArray, List.getElem?_cons_succ, List.getElem?_cons_zero]; try exact rfl)); (case hw => rfl); (case hl => rfl); (case hsp => rfl); (case he => rfl); (case hv => (intro w' hw'; (try have hw2 := Ext.trans hEW hw'); go_simp; exact rfl)); simp only [Act.put, List.setIfInBounds_toArray, List.set_cons_succ, List.set_cons_zero]) | (apply wpR_pass; (case ho => (simp only [List.getElem?_toArray, List.getElem?_cons_succ, List.getElem?_cons_zero]; try exact rfl)); (case hw => rfl); (case hl => rfl); simp only [Act.put, List.setIfInBounds_toArray, List.set_cons_succ, List.set_cons_zero]))
      refine wpR_new (by ((simp only [List.getElem?_toArray, List.getElem?_cons_succ, List.getElem?_cons_zero]; try exact rfl))) _ rfl rfl rfl (fun V v => SpBy.exc (fun k cs h1 h2 => by omega) _ _) (fun V V' h => rfl) (fun w' hw' hK => ?_) (fun v hv => ?_)
      · unfold opAt; go_simp; refine upAt_enter ?_
        refine (spare_any (xv.ext (hX w' (hEW.trans hw')))).mono ?_
        rintro e w2 ⟨g, rfl, hg, hs, hE2⟩
        exact ⟨_, rfl, hE2, g, rfl, by have := (hEW.trans hw').size; omega, hs⟩
      obtain ⟨gv, rfl⟩ : ∃ g, v = .slice (some ⟨g, 0, none⟩) x.val.length (x.val.length + 64) := by
        obtain ⟨_, _, _, g, h, _⟩ := hv
        exact ⟨g, h⟩
      clear hv
      simp only [Act.put, List.setIfInBounds_toArray, List.set_cons_succ, List.set_cons_zero]
      repeat (first | (apply wpR_one; (case ho => (simp only [List.getElem?_toArray, List.getElem?_cons_succ, List.getElem?_cons_zero]; try exact rfl)); (case hw => rfl); (case hl => rfl); (case hsp => rfl); (case he => rfl); (case hv => (intro w' hw'; (try (have hw2 := Ext.trans hEW hw')); (try (have hw3 := Exc.trans hEW hw')); (try (have hw4 := Exk.trans hEW hw')); (try (have hw5 := Mrk.trans hEW hw')); go_simp; exact rfl)); (case hw0 => (first | exact Below.refl _ _ | exact Exc.of_ext (Below.refl _ _) | exact Exk.of_ext (Below.refl _ _) | exact Mrk.of_ext (Below.refl _ _))); simp only [Act.put, List.setIfInBounds_toArray, List.set_cons_succ, List.set_cons_zero]) | (apply wpR_early; (case ho => (simp only [List.getElem?_toArray, List.getElem?_cons_succ, List.getElem?_cons_zero]; try exact rfl)); (case hw => rfl); (case hl => rfl); (case hsp => rfl); (case he => rfl); (case hv => (intro w' hw'; (try have hw2 := Ext.trans hEW hw'); go_simp; exact rfl)); simp only [Act.put, List.setIfInBounds_toArray, List.set_cons_succ, List.set_cons_zero]) | (apply wpR_pass; (case ho => (simp only [List.getElem?_toArray, List.getElem?_cons_succ, List.getElem?_cons_zero]; try exact rfl)); (case hw => rfl); (case hl => rfl); simp only [Act.put, List.setIfInBounds_toArray, List.set_cons_succ, List.set_cons_zero]))
      refine wpR_late (by ((simp only [List.getElem?_toArray, List.getElem?_cons_succ, List.getElem?_cons_zero]; try exact rfl))) _ rfl rfl (fun V v => fun _ _ h he => he.blk h) (fun V V' h => by simp only [h 8 (by kernel_rfl), h 15 (by kernel_rfl)]) (fun w' hw' hK hF => ?_) (fun v hv => ?_)
      · refine opAt_list rfl #[] (fun Q hQ => ?_)
        refine wpList_store_part rfl 51 _ _ rfl gi _ [_, _, _, _] _ zIt _ rfl rfl 51 hF (by rw [HP.out]) rfl (by kernel_rfl) (by simp [Value.oneCell']) (fun w4 hb hg => ?_)
        exact hQ _ _ ⟨Exc.of_only hg (fun _ _ => rfl), hb⟩
      clear hv
      apply wpR_nil
      apply hN
      intro w4 hE' hK hF
      have hX4 := hEW.trans hE'
      have k8 := (hK 8).2
      have k15 := (hK 15).2
      have hb4 : w4.heap[gi]? = some (.cells (rowCells ps pre ++ [Value.slice (some ⟨gk, 0, none⟩) x.key.length (x.key.length + 64), Value.slice (some ⟨gv, 0, none⟩) x.val.length (x.val.length + 64), Value.int .i64 x.ch, Value.int .i64 x.sz] ++ zeros (suf.length + 2)).toArray 51 (0, 0)) := hF
      have hA4 := hA.exc hX4 (fun q h o => by omega) (fun q cs h e => by
        subst e
        have := h.symm.trans hblk2
        injection this with this
        injection this with _ h
        exact absurd h (by decide)) (fun q o h => by omega)
      have hS4 := (SpEach.exc hX4 (fun q cs h1 h2 => by omega) hS).append (qs := [(.slice (some ⟨gk, 0, none⟩) x.key.length (x.key.length + 64), .slice (some ⟨gv, 0, none⟩) x.val.length (x.val.length + 64))]) (ys := [x]) ⟨k8, k15, trivial⟩
      have hSl := hS.length
      clear hK hN hF k8 k15 ec ex0 ex1 ex2 ex3 hX hEW hE' hX4 hA hS hblk2 hW
      have HSl := Lib.hid hSl
      clear hSl
      go_wp2
      go_roundw
      case rel =>
        refine ⟨pre ++ [x], suf, 0, _, by rw [HS.out]; simp, .inr rfl, by omega, by simp, hA4, hS4, ?_⟩
        rw [hb4, rowCells_append _ _ _ _ HSl.out]
        simp [rowCells, itCells, markIts]
      case measure => simp [intOf]; omega
end Go.Proofs.Ytjjbckdiojleeaa
