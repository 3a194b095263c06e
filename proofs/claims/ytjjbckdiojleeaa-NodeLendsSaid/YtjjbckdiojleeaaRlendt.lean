/- The contract of coppiceref12.Lend. No condition but that what comes in lies in memory, and that there is room for what is lent. -/
import Derived.Test.YtjjbckdiojleeaaRsplit
import Derived.Test.YtjjbckdiojleeaaAll
import Derived.Test.YtjjbckdiojleeaaNlaws
namespace Go.Proofs.Ytjjbckdiojleeaa
set_option linter.unusedVariables false
open Go.RowKit Go.Proofs
theorem StoredIn.ext' {g : Nat} {v : Value} {w w' : World} (h : StoredIn g v w) (he : Ext w w') : StoredIn g v w' := by
  obtain ⟨cs, h1, h2⟩ := h
  exact ⟨cs, h1, he.blk h2⟩
set_option maxRecDepth 100000 in
set_option maxHeartbeats 2000000 in
theorem rlend_true {v u : Value} {p q : Pg} {A : Option Addr} {c n : Nat} {sep : List UInt8} {w : World} (hv : PgV w v p) (hu : PgV w u q) (hs : Sl w A c sep) (hn : n = sep.length) (ht0 : lendOk p q true = true → p.items.length + q.items.length ≤ 2199023255552) :
    Calls Try.prog 32 #[v, u, .slice A n c, .bool true] w fun e w' => ∃ v1 v2 A' c', e = .returned (.tuple #[v1, v2, .slice A' (part3 (lendB p q sep true)).length c', .bool (lendB p q sep true).isSome]) ∧
      PgO w.heap.size w' v1 (part1 (lendB p q sep true)) ∧ PgO w.heap.size w' v2 (part2 (lendB p q sep true)) ∧ Own 5 w.heap.size w' A' c' (part3 (lendB p q sep true)) ∧ Ext w w' := by
  subst hn
  obtain ⟨iA, ic, dA, dc, rfl, hi, hd⟩ := hv.ex
  obtain ⟨jA, jc, eA, ec, rfl, hj, hcd⟩ := hu.ex
  have hil := hi.len
  have hjl := hj.len
  have hv0 := hv
  have hu0 := hu
  have hsm1 := hv.small
  have hsm2 := hu.small
  have hsl := hs.len
  clear hd hcd hv hu
  obtain ⟨i0, hii, hz0, hz1, hz2⟩ := info_parts infoItem
  have hEE := (((ext_alloc w (.cells #[.int .i64 p.kind, .int .i64 p.level, .slice iA p.items.length ic, .slice dA p.data.length dc, .int .i64 p.next] 26)).trans (ext_alloc _ (.cells #[.int .i64 q.kind, .int .i64 q.level, .slice jA q.items.length jc, .slice eA q.data.length ec, .int .i64 q.next] 26))).trans (ext_alloc _ (.cells #[.int .i64 0, .int .i64 0, .slice none 0 0, .slice none 0 0, .int .i64 0] 26))).trans (ext_alloc _ (.cells #[.int .i64 0, .int .i64 0, .slice none 0 0, .slice none 0 0, .int .i64 0] 26))
  have HP := Lib.hid ((ext_alloc _ (.cells #[.int .i64 0, .int .i64 0, .slice none 0 0, .slice none 0 0, .int .i64 0] 26)).blk ((ext_alloc _ (.cells #[.int .i64 0, .int .i64 0, .slice none 0 0, .slice none 0 0, .int .i64 0] 26)).blk (heap_alloc2_old w (.cells #[.int .i64 p.kind, .int .i64 p.level, .slice iA p.items.length ic, .slice dA p.data.length dc, .int .i64 p.next] 26) (.cells #[.int .i64 q.kind, .int .i64 q.level, .slice jA q.items.length jc, .slice eA q.data.length ec, .int .i64 q.next] 26))))
  have HQB := Lib.hid ((ext_alloc _ (.cells #[.int .i64 0, .int .i64 0, .slice none 0 0, .slice none 0 0, .int .i64 0] 26)).blk ((ext_alloc _ (.cells #[.int .i64 0, .int .i64 0, .slice none 0 0, .slice none 0 0, .int .i64 0] 26)).blk (heap_alloc2_new w (.cells #[.int .i64 p.kind, .int .i64 p.level, .slice iA p.items.length ic, .slice dA p.data.length dc, .int .i64 p.next] 26) (.cells #[.int .i64 q.kind, .int .i64 q.level, .slice jA q.items.length jc, .slice eA q.data.length ec, .int .i64 q.next] 26))))
  have H8 := Lib.hid ((ext_alloc _ (.cells #[.int .i64 0, .int .i64 0, .slice none 0 0, .slice none 0 0, .int .i64 0] 26)).blk (heap_alloc_at ((w.alloc (.cells #[.int .i64 p.kind, .int .i64 p.level, .slice iA p.items.length ic, .slice dA p.data.length dc, .int .i64 p.next] 26)).alloc (.cells #[.int .i64 q.kind, .int .i64 q.level, .slice jA q.items.length jc, .slice eA q.data.length ec, .int .i64 q.next] 26)) (.cells #[.int .i64 0, .int .i64 0, .slice none 0 0, .slice none 0 0, .int .i64 0] 26) (w.heap.size + 1 + 1) (by simp)))
  have H9 := Lib.hid (heap_alloc_at (((w.alloc (.cells #[.int .i64 p.kind, .int .i64 p.level, .slice iA p.items.length ic, .slice dA p.data.length dc, .int .i64 p.next] 26)).alloc (.cells #[.int .i64 q.kind, .int .i64 q.level, .slice jA q.items.length jc, .slice eA q.data.length ec, .int .i64 q.next] 26)).alloc (.cells #[.int .i64 0, .int .i64 0, .slice none 0 0, .slice none 0 0, .int .i64 0] 26)) (.cells #[.int .i64 0, .int .i64 0, .slice none 0 0, .slice none 0 0, .int .i64 0] 26) (w.heap.size + 1 + 1 + 1) (by simp))
  by_cases hnb : neighB p q = true
  rotate_left
  · have HQ := Lib.hid (show lendB p q sep true = none by unfold lendB; rw [if_neg (fun h => hnb (by unfold lendOk at h; simp only [Bool.and_eq_true] at h; exact h.1))])
    have hcs : meantB p.kind = false ∨ (meantB p.kind = true ∧ (p.kind != q.kind) = true) ∨ (meantB p.kind = true ∧ (p.kind != q.kind) = false ∧ (p.level != q.level) = true) := by
      cases h1 : meantB p.kind
      · exact .inl rfl
      cases h2 : p.kind != q.kind
      rotate_left
      · exact .inr (.inl ⟨rfl, rfl⟩)
      cases h3 : p.level != q.level
      rotate_left
      · exact .inr (.inr ⟨rfl, rfl, rfl⟩)
      exfalso
      refine hnb ?_
      unfold neighB
      rw [h1]
      simp only [bne_eq_false_iff_eq] at h2 h3
      simp [h2, h3]
    clear hnb
    go_enter Try.func32, Try.ntmps32
    go_wp2_with fail
    refine rmeant_any.mono ?_
    rintro e w1 ⟨rfl, hE1⟩
    replace HP := Lib.hid (hE1.blk HP.out)
    replace HQB := Lib.hid (hE1.blk HQB.out)
    have b2 := hE1.blk H8.out
    have b3 := hE1.blk H9.out
    have hE := hEE.trans hE1
    clear H8 H9 hEE hE1
    have p0 := cell_of_row w1 w.heap.size 0 _ _ _ HP.out
    have p1 := cell_of_row w1 w.heap.size 1 _ _ _ HP.out
    have p2 := cell_of_row w1 w.heap.size 2 _ _ _ HP.out
    have p3 := cell_of_row w1 w.heap.size 3 _ _ _ HP.out
    have p4 := cell_of_row w1 w.heap.size 4 _ _ _ HP.out
    simp only [List.getElem?_toArray, List.getElem?_cons_zero, List.getElem?_cons_succ] at p0 p1 p2 p3 p4
    have q0 := cell_of_row w1 (w.heap.size + 1) 0 _ _ _ HQB.out
    have q1 := cell_of_row w1 (w.heap.size + 1) 1 _ _ _ HQB.out
    have q2 := cell_of_row w1 (w.heap.size + 1) 2 _ _ _ HQB.out
    have q3 := cell_of_row w1 (w.heap.size + 1) 3 _ _ _ HQB.out
    have q4 := cell_of_row w1 (w.heap.size + 1) 4 _ _ _ HQB.out
    simp only [List.getElem?_toArray, List.getElem?_cons_zero, List.getElem?_cons_succ] at q0 q1 q2 q3 q4
    rcases hcs with h1 | ⟨h1, h2⟩ | ⟨h1, h2, h3⟩
    all_goals
      rw [h1]
      clear h1
      go_wp2_with (first | (with_reducible refine wpList_store_at 26 (.tmp 8) (.tmp 38) (w.heap.size + 1 + 1) _ rfl rfl 26 _ b2 ?_ rfl ?_ (fun w8 hb hg => ?_); (· kernel_rfl); (· simp [Value.oneCell']); have b3' := blk_other b3 hg (by omega); have hE6 := ext_only hE hg (by omega)) | (with_reducible refine wpList_store_at 26 (.tmp 9) (.tmp 39) (w.heap.size + 1 + 1 + 1) _ rfl rfl 26 _ b3' ?_ rfl ?_ (fun w9 hb' hg' => ?_); (· kernel_rfl); (· simp [Value.oneCell'])))
      refine bodyPost_ret (results_rrtt rfl _ _ _ _ _ _ _ _ _ _ _ _ rfl (blk_other hb hg' (by omega)) Try.underlying26 rfl (by kernel_rfl) rfl hb' Try.underlying26 rfl (by kernel_rfl)) rfl ⟨_, _, none, 0, by rw [HQ.out]; rfl, by rw [HQ.out]; exact PgO.zero _ _, ?_, ?_, ext_only hE6 hg' (by omega)⟩
      · rw [HQ.out]; exact PgO.zero _ _
      · rw [HQ.out]; exact ⟨rfl, .inl ⟨rfl, rfl⟩⟩
  have HNB := Lib.hid hnb
  obtain ⟨m1, m2, m3⟩ : meantB p.kind = true ∧ (p.kind != q.kind) = false ∧ (p.level != q.level) = false := by
    unfold neighB at hnb
    simp only [Bool.and_eq_true, beq_iff_eq] at hnb
    exact ⟨hnb.1, by simp [hnb.2.1], by simp [hnb.2.2]⟩
  clear hnb
  have HLK := Lib.hid (show lendsB (p.items.length : Int) (q.items.length : Int) = lendOk p q true by
    unfold lendsB lendOk
    rw [HNB.out, Bool.true_and, Bool.eq_iff_iff]
    simp only [Bool.and_eq_true, decide_eq_true_eq]
    omega)
  go_enter Try.func32, Try.ntmps32
  go_wp2_with fail
  refine rmeant_any.mono ?_
  rintro e w1 ⟨rfl, hE1⟩
  replace HP := Lib.hid (hE1.blk HP.out)
  replace HQB := Lib.hid (hE1.blk HQB.out)
  replace H8 := Lib.hid (hE1.blk H8.out)
  replace H9 := Lib.hid (hE1.blk H9.out)
  have hE := hEE.trans hE1
  clear hEE hE1
  have p0 := cell_of_row w1 w.heap.size 0 _ _ _ HP.out
  have p1 := cell_of_row w1 w.heap.size 1 _ _ _ HP.out
  have p2 := cell_of_row w1 w.heap.size 2 _ _ _ HP.out
  have p3 := cell_of_row w1 w.heap.size 3 _ _ _ HP.out
  have p4 := cell_of_row w1 w.heap.size 4 _ _ _ HP.out
  simp only [List.getElem?_toArray, List.getElem?_cons_zero, List.getElem?_cons_succ] at p0 p1 p2 p3 p4
  have q0 := cell_of_row w1 (w.heap.size + 1) 0 _ _ _ HQB.out
  have q1 := cell_of_row w1 (w.heap.size + 1) 1 _ _ _ HQB.out
  have q2 := cell_of_row w1 (w.heap.size + 1) 2 _ _ _ HQB.out
  have q3 := cell_of_row w1 (w.heap.size + 1) 3 _ _ _ HQB.out
  have q4 := cell_of_row w1 (w.heap.size + 1) 4 _ _ _ HQB.out
  simp only [List.getElem?_toArray, List.getElem?_cons_zero, List.getElem?_cons_succ] at q0 q1 q2 q3 q4
  rw [m1]
  go_wp2_with fail
  clear p0 p1 p2 p3 p4 q0 q1 q2 q3 q4
  have e0 : ∀ w', Ext w1 w' → w'.cell? ⟨w.heap.size, 0, none⟩ = some (.int .i64 p.kind) := fun w' h => cell_of_row _ _ _ _ _ _ (h.blk HP.out)
  have e1 : ∀ w', Ext w1 w' → w'.cell? ⟨w.heap.size, 1, none⟩ = some (.int .i64 p.level) := fun w' h => cell_of_row _ _ _ _ _ _ (h.blk HP.out)
  have e2 : ∀ w', Ext w1 w' → w'.cell? ⟨w.heap.size, 2, none⟩ = some (.slice iA p.items.length ic) := fun w' h => cell_of_row _ _ _ _ _ _ (h.blk HP.out)
  have e3 : ∀ w', Ext w1 w' → w'.cell? ⟨w.heap.size, 3, none⟩ = some (.slice dA p.data.length dc) := fun w' h => cell_of_row _ _ _ _ _ _ (h.blk HP.out)
  have e4 : ∀ w', Ext w1 w' → w'.cell? ⟨w.heap.size, 4, none⟩ = some (.int .i64 p.next) := fun w' h => cell_of_row _ _ _ _ _ _ (h.blk HP.out)
  have f0 : ∀ w', Ext w1 w' → w'.cell? ⟨w.heap.size + 1, 0, none⟩ = some (.int .i64 q.kind) := fun w' h => cell_of_row _ _ _ _ _ _ (h.blk HQB.out)
  have f1 : ∀ w', Ext w1 w' → w'.cell? ⟨w.heap.size + 1, 1, none⟩ = some (.int .i64 q.level) := fun w' h => cell_of_row _ _ _ _ _ _ (h.blk HQB.out)
  have f2 : ∀ w', Ext w1 w' → w'.cell? ⟨w.heap.size + 1, 2, none⟩ = some (.slice jA q.items.length jc) := fun w' h => cell_of_row _ _ _ _ _ _ (h.blk HQB.out)
  have f3 : ∀ w', Ext w1 w' → w'.cell? ⟨w.heap.size + 1, 3, none⟩ = some (.slice eA q.data.length ec) := fun w' h => cell_of_row _ _ _ _ _ _ (h.blk HQB.out)
  have f4 : ∀ w', Ext w1 w' → w'.cell? ⟨w.heap.size + 1, 4, none⟩ = some (.int .i64 q.next) := fun w' h => cell_of_row _ _ _ _ _ _ (h.blk HQB.out)
  refine wp_region_rg Ext rel_ext (fun _ => True) [0, 1, 2, 3, 4, 5, 6, 7] (fun _ => none) (fun _ => none) (fun _ => false) (by kernel_rfl) (by kernel_rfl) (fun _ _ _ _ => trivial) trivial (fun W N hW _ hN => ?_)
  have hEW : Ext w1 W := hW
  repeat (first | (apply wpR_one; (case ho => (simp only [List.getElem?_toArray, List.getElem?_cons_succ, List.getElem?_cons_zero]; try exact rfl)); (case hw => rfl); (case hl => rfl); (case hsp => rfl); (case he => rfl); (case hv => (intro w' hw'; (try (have hw2 := Ext.trans hEW hw')); (try (have hw3 := Exc.trans hEW hw')); (try (have hw4 := Exk.trans hEW hw')); (try (have hw5 := Mrk.trans hEW hw')); go_simp; exact rfl)); (case hw0 => (first | exact Below.refl _ _ | exact Exc.of_ext (Below.refl _ _) | exact Exk.of_ext (Below.refl _ _) | exact Mrk.of_ext (Below.refl _ _))); simp only [Act.put, List.setIfInBounds_toArray, List.set_cons_succ, List.set_cons_zero]) | (apply wpR_early; (case ho => (simp only [List.getElem?_toArray, List.getElem?_cons_succ, List.getElem?_cons_zero]; try exact rfl)); (case hw => rfl); (case hl => rfl); (case hsp => rfl); (case he => rfl); (case hv => (intro w' hw'; (try have hw2 := Ext.trans hEW hw'); go_simp; exact rfl)); simp only [Act.put, List.setIfInBounds_toArray, List.set_cons_succ, List.set_cons_zero]) | (apply wpR_pass; (case ho => (simp only [List.getElem?_toArray, List.getElem?_cons_succ, List.getElem?_cons_zero]; try exact rfl)); (case hw => rfl); (case hl => rfl); simp only [Act.put, List.setIfInBounds_toArray, List.set_cons_succ, List.set_cons_zero]))
  apply wpR_nil
  apply hN
  intro w2 hE' hK _
  have hE2 := hEW.trans hE'
  replace HP := Lib.hid (hE2.blk HP.out)
  replace HQB := Lib.hid (hE2.blk HQB.out)
  replace H8 := Lib.hid (hE2.blk H8.out)
  replace H9 := Lib.hid (hE2.blk H9.out)
  replace hE := hE.trans hE2
  clear hK hN hEW hE' hW hE2 m1 m2 m3 e0 e1 e2 e3 e4 f0 f1 f2 f3 f4
  go_wp2_with fail
  refine rlends_any.mono ?_
  rintro e w3 ⟨rfl, hE3⟩
  rw [HLK.out]
  replace HP := Lib.hid (hE3.blk HP.out)
  replace HQB := Lib.hid (hE3.blk HQB.out)
  replace H8 := Lib.hid (hE3.blk H8.out)
  replace H9 := Lib.hid (hE3.blk H9.out)
  replace hE := hE.trans hE3
  clear hE3
  cases hok : lendOk p q true
  · have HQ := Lib.hid (show lendB p q sep true = none by unfold lendB; rw [if_neg (by rw [hok]; simp)])
    have b2 := H8.out
    have b3 := H9.out
    clear hok HLK
    go_wp2_with (first | (with_reducible refine wpList_store_at 26 (.tmp 8) (.tmp 63) (w.heap.size + 1 + 1) _ rfl rfl 26 _ b2 ?_ rfl ?_ (fun w8 hb hg => ?_); (· kernel_rfl); (· simp [Value.oneCell']); have b3' := blk_other b3 hg (by omega); have hE6 := ext_only hE hg (by omega)) | (with_reducible refine wpList_store_at 26 (.tmp 9) (.tmp 64) (w.heap.size + 1 + 1 + 1) _ rfl rfl 26 _ b3' ?_ rfl ?_ (fun w9 hb' hg' => ?_); (· kernel_rfl); (· simp [Value.oneCell'])))
    refine bodyPost_ret (results_rrtt rfl _ _ _ _ _ _ _ _ _ _ _ _ rfl (blk_other hb hg' (by omega)) Try.underlying26 rfl (by kernel_rfl) rfl hb' Try.underlying26 rfl (by kernel_rfl)) rfl ⟨_, _, none, 0, by rw [HQ.out]; rfl, by rw [HQ.out]; exact PgO.zero _ _, ?_, ?_, ext_only hE6 hg' (by omega)⟩
    · rw [HQ.out]; exact PgO.zero _ _
    · rw [HQ.out]; exact ⟨rfl, .inl ⟨rfl, rfl⟩⟩
  have ht := ht0 hok
  have HQ0 := Lib.hid (show lendB p q sep true = partB p q (rowB p q sep) (p.items.length - 1) by unfold lendB; rw [if_pos hok]; rfl)
  obtain ⟨g1, g2, g3⟩ : 2 ≤ p.items.length ∧ 1 ≤ q.items.length ∧ q.items.length < 8 := by
    unfold lendOk at hok
    simp only [Bool.and_eq_true, decide_eq_true_eq] at hok
    exact hok.2
  obtain ⟨nn, hnn⟩ : ∃ m : Nat, m = p.items.length - 1 := ⟨_, rfl⟩
  have hn1 : 1 ≤ nn := by omega
  have hn2 : nn < p.items.length + q.items.length := by omega
  have hnp : nn ≠ p.items.length := by omega
  have HNN := Lib.hid hnn
  have HNI := Lib.hid (show (p.items.length : Int) - 1 = (nn : Int) by omega)
  rw [← hnn] at HQ0
  clear hok HLK ht0 hnn
  have hP0 := HP.out
  have hQ0 := HQB.out
  have h80 := H8.out
  have h90 := H9.out
  clear HP HQB H8 H9
  go_wp2
  go_loopw [14, 15] (fun u i wr => ∃ k : Nat, k ≤ p.items.length ∧ i = .int .i64 k ∧ RowO (w.heap.size + 4) wr u (p.items.take k) ∧ Ext w wr ∧ wr.heap[w.heap.size]? = some (.cells #[.int .i64 p.kind, .int .i64 p.level, .slice iA p.items.length ic, .slice dA p.data.length dc, .int .i64 p.next] 26) ∧ wr.heap[w.heap.size + 1]? = some (.cells #[.int .i64 q.kind, .int .i64 q.level, .slice jA q.items.length jc, .slice eA q.data.length ec, .int .i64 q.next] 26) ∧ wr.heap[w.heap.size + 1 + 1]? = some (.cells #[.int .i64 0, .int .i64 0, .slice none 0 0, .slice none 0 0, .int .i64 0] 26) ∧ wr.heap[w.heap.size + 1 + 1 + 1]? = some (.cells #[.int .i64 0, .int .i64 0, .slice none 0 0, .slice none 0 0, .int .i64 0] 26)) (fun _ i _ => p.items.length - (intOf i).toNat)
  case atStart => exact ⟨0, Nat.zero_le _, rfl, ⟨none, 0, [], rfl, OwnIts.nil _ _⟩, hE, hP0, hQ0, h80, h90⟩
  case round =>
    clear hP0 hQ0 h80 h90 hE
    obtain ⟨k, hkl, rfl, hrs, hE, hP, hQ, h8, h9⟩ := hrel
    obtain ⟨rA, rc, ps, rfl, hown⟩ := hrs.ex
    have HP := Lib.hid hP
    have HQB := Lib.hid hQ
    have H8 := Lib.hid h8
    have H9 := Lib.hid h9
    clear hP hQ h8 h9
    have p2 := cell_of_row wr w.heap.size 2 _ _ _ HP.out
    simp at p2
    by_cases hlt : k < p.items.length
    · clear hn1 hn2 hnp
      obtain ⟨x, hx⟩ : ∃ x, p.items[k]? = some x := ⟨_, List.getElem?_eq_getElem hlt⟩
      obtain ⟨b, o, rfl, hcx⟩ := hi.rd (by omega)
      obtain ⟨yA, yc, zA, zc, x0, x1, x2, x3, xk, xv⟩ := (hcx _ x hx).ext hE
      have j1 : (k : Int) < p.items.length := by omega
      have HS := Lib.hid (show p.items.take (k + 1) = p.items.take k ++ [x] from by rw [take_at hx])
      have hdl : (p.items.take k).length ≤ k := by simp; omega
      clear hx hcx hlt hrs
      generalize hdn : p.items.take k = done at hown HS hdl
      clear hdn
      go_wp2_with fail
      refine (copyItem_any xk xv).mono ?_
      rintro e w1 ⟨kA, kc, vA, vc, rfl, ok, ov, hns, hE1⟩
      have HNS := Lib.hid hns
      have hsz0 := (Array.getElem?_eq_some_iff.1 H9.out).1
      have hown1 := hown.ext (hE1.trans (ext_alloc _ (.cells #[.slice kA x.key.length kc, .slice vA x.val.length vc, .int .i64 x.ch, .int .i64 x.sz] 51)))
      have hsz1 := hE1.size
      clear hns x0 x1 x2 x3 p2
      go_wp2_with (at_builtin; refine wpList_append_own _ rfl _ _ 23 rfl (w.heap.size + 4) 51 i0 _ 4 64 Try.underlying23 hii hz0 hz1 hz2 rfl (by decide) _ _ _ rfl hown1.row ⟨w1.heap.size, 0, none⟩ 1 1 [.slice kA x.key.length kc, .slice vA x.val.length vc, .int .i64 x.ch, .int .i64 x.sz] rfl rfl (news4 _ _ _ _ _ _ _) (by simp [Value.oneCell']) (by simp [maxLen]; omega) (by omega) (by simp; omega) ?_; intro v' w9 hown9 hgrow9 _)
      have hX9 := Exc.of_grown (D := fun q _ => w.heap.size + 4 ≤ q) hgrow9 (fun g o hg _ => (hown1.row.lt g hg).1)
      have hE2 : Ext w w9 := hX9.to_ext ((hE.trans hE1).trans (ext_alloc _ (.cells #[.slice kA x.key.length kc, .slice vA x.val.length vc, .int .i64 x.ch, .int .i64 x.sz] 51))) (fun q _ h => by omega)
      have n1 := hX9.blk ((hE1.trans (ext_alloc _ (.cells #[.slice kA x.key.length kc, .slice vA x.val.length vc, .int .i64 x.ch, .int .i64 x.sz] 51))).blk HP.out) (by omega)
      have n2 := hX9.blk ((hE1.trans (ext_alloc _ (.cells #[.slice kA x.key.length kc, .slice vA x.val.length vc, .int .i64 x.ch, .int .i64 x.sz] 51))).blk HQB.out) (by omega)
      have n3 := hX9.blk ((hE1.trans (ext_alloc _ (.cells #[.slice kA x.key.length kc, .slice vA x.val.length vc, .int .i64 x.ch, .int .i64 x.sz] 51))).blk H8.out) (by omega)
      have n4 := hX9.blk ((hE1.trans (ext_alloc _ (.cells #[.slice kA x.key.length kc, .slice vA x.val.length vc, .int .i64 x.ch, .int .i64 x.sz] 51))).blk H9.out) (by omega)
      obtain ⟨A2, c2, rfl, hown3⟩ := hown.push hE1 (by omega) ok ov HNS.out _ rfl hown9 hgrow9
      clear hown9 hgrow9 hown hown1 ok ov xk xv hX9
      go_wp2
      go_roundw
      case rel => exact ⟨k + 1, by omega, by rw [Int.natCast_succ], by rw [HS.out]; exact ⟨A2, c2, _, by simp, hown3⟩, hE2, n1, n2, n3, n4⟩
      case measure => simp [intOf]; omega
    obtain rfl : k = p.items.length := by omega
    clear hown ps
    simp only [List.take_length] at hrs ⊢
    clear hlt hkl p2
    have hP0 := HP.out
    have hQ0 := HQB.out
    have h80 := H8.out
    have h90 := H9.out
    clear HP HQB H8 H9
    go_wp2
    go_loopw [14, 16] (fun u i wr => ∃ k : Nat, k ≤ q.items.length ∧ i = .int .i64 k ∧ RowO (w.heap.size + 4) wr u (p.items ++ q.items.take k) ∧ Ext w wr ∧ wr.heap[w.heap.size]? = some (.cells #[.int .i64 p.kind, .int .i64 p.level, .slice iA p.items.length ic, .slice dA p.data.length dc, .int .i64 p.next] 26) ∧ wr.heap[w.heap.size + 1]? = some (.cells #[.int .i64 q.kind, .int .i64 q.level, .slice jA q.items.length jc, .slice eA q.data.length ec, .int .i64 q.next] 26) ∧ wr.heap[w.heap.size + 1 + 1]? = some (.cells #[.int .i64 0, .int .i64 0, .slice none 0 0, .slice none 0 0, .int .i64 0] 26) ∧ wr.heap[w.heap.size + 1 + 1 + 1]? = some (.cells #[.int .i64 0, .int .i64 0, .slice none 0 0, .slice none 0 0, .int .i64 0] 26)) (fun _ i _ => q.items.length - (intOf i).toNat)
    case atStart => exact ⟨0, Nat.zero_le _, rfl, by rw [List.take_zero, List.append_nil]; exact hrs, hE, hP0, hQ0, h80, h90⟩
    case round =>
      clear hP0 hQ0 h80 h90 hE hrs
      obtain ⟨k, hkl, rfl, hrs, hE, hP, hQ, h8, h9⟩ := hrel
      obtain ⟨rA, rc, ps, rfl, hown⟩ := hrs.ex
      have HP := Lib.hid hP
      have HQB := Lib.hid hQ
      have H8 := Lib.hid h8
      have H9 := Lib.hid h9
      clear hP hQ h8 h9
      have q2 := cell_of_row wr (w.heap.size + 1) 2 _ _ _ HQB.out
      simp at q2
      by_cases hlt : k < q.items.length
      · clear hn1 hn2 hnp
        obtain ⟨x, hx⟩ : ∃ x, q.items[k]? = some x := ⟨_, List.getElem?_eq_getElem hlt⟩
        obtain ⟨b, o, rfl, hcx⟩ := hj.rd (by omega)
        obtain ⟨yA, yc, zA, zc, x0, x1, x2, x3, xk, xv⟩ := (hcx _ x hx).ext hE
        have j1 : (k : Int) < q.items.length := by omega
        have HS := Lib.hid (show p.items ++ q.items.take (k + 1) = p.items ++ q.items.take k ++ [x] from by rw [take_at hx, List.append_assoc])
        have hdl : (p.items ++ q.items.take k).length ≤ p.items.length + k := by simp; omega
        clear hx hcx hlt hrs
        generalize hdn : p.items ++ q.items.take k = done at hown HS hdl
        clear hdn
        go_wp2_with fail
        refine (copyItem_any xk xv).mono ?_
        rintro e w1 ⟨kA, kc, vA, vc, rfl, ok, ov, hns, hE1⟩
        have HNS := Lib.hid hns
        have hsz0 := (Array.getElem?_eq_some_iff.1 H9.out).1
        have hown1 := hown.ext (hE1.trans (ext_alloc _ (.cells #[.slice kA x.key.length kc, .slice vA x.val.length vc, .int .i64 x.ch, .int .i64 x.sz] 51)))
        have hsz1 := hE1.size
        clear hns x0 x1 x2 x3 q2
        go_wp2_with (at_builtin; refine wpList_append_own _ rfl _ _ 23 rfl (w.heap.size + 4) 51 i0 _ 4 64 Try.underlying23 hii hz0 hz1 hz2 rfl (by decide) _ _ _ rfl hown1.row ⟨w1.heap.size, 0, none⟩ 1 1 [.slice kA x.key.length kc, .slice vA x.val.length vc, .int .i64 x.ch, .int .i64 x.sz] rfl rfl (news4 _ _ _ _ _ _ _) (by simp [Value.oneCell']) (by simp [maxLen]; omega) (by omega) (by simp; omega) ?_; intro v' w9 hown9 hgrow9 _)
        have hX9 := Exc.of_grown (D := fun q _ => w.heap.size + 4 ≤ q) hgrow9 (fun g o hg _ => (hown1.row.lt g hg).1)
        have hE2 : Ext w w9 := hX9.to_ext ((hE.trans hE1).trans (ext_alloc _ (.cells #[.slice kA x.key.length kc, .slice vA x.val.length vc, .int .i64 x.ch, .int .i64 x.sz] 51))) (fun q _ h => by omega)
        have n1 := hX9.blk ((hE1.trans (ext_alloc _ (.cells #[.slice kA x.key.length kc, .slice vA x.val.length vc, .int .i64 x.ch, .int .i64 x.sz] 51))).blk HP.out) (by omega)
        have n2 := hX9.blk ((hE1.trans (ext_alloc _ (.cells #[.slice kA x.key.length kc, .slice vA x.val.length vc, .int .i64 x.ch, .int .i64 x.sz] 51))).blk HQB.out) (by omega)
        have n3 := hX9.blk ((hE1.trans (ext_alloc _ (.cells #[.slice kA x.key.length kc, .slice vA x.val.length vc, .int .i64 x.ch, .int .i64 x.sz] 51))).blk H8.out) (by omega)
        have n4 := hX9.blk ((hE1.trans (ext_alloc _ (.cells #[.slice kA x.key.length kc, .slice vA x.val.length vc, .int .i64 x.ch, .int .i64 x.sz] 51))).blk H9.out) (by omega)
        obtain ⟨A2, c2, rfl, hown3⟩ := hown.push hE1 (by omega) ok ov HNS.out _ rfl hown9 hgrow9
        clear hown9 hgrow9 hown hown1 ok ov xk xv hX9
        go_wp2
        go_roundw
        case rel => exact ⟨k + 1, by omega, by rw [Int.natCast_succ], by rw [HS.out]; exact ⟨A2, c2, _, by simp, hown3⟩, hE2, n1, n2, n3, n4⟩
        case measure => simp [intOf]; omega
      obtain rfl : k = q.items.length := by omega
      rw [List.take_length] at hown
      have hlen : (p.items ++ q.items).length = p.items.length + q.items.length := by simp
      obtain ⟨g, cp, hgA, hgB, _⟩ := World.ownsRow.form hown.row (by omega)
      injection hgA with hA1 hA2 hA3
      subst hA1 hA3
      clear hA2 hrs
      have HL := Lib.hid (show (p.items ++ q.items.take q.items.length).length = p.items.length + q.items.length by rw [List.take_length]; exact hlen)
      generalize hgn : (p.items ++ q.items.take q.items.length).length = rn at HL
      have hrn : rn = p.items.length + q.items.length := HL.out
      have i1 : (p.items.length : Int) < (rn : Int) := by omega
      have i2 : (nn : Int) < (rn : Int) := by omega
      have i3 : (nn : Int) ≤ (rn : Int) := by omega
      have i4 : nn < rn := by omega
      have i5 : nn ≤ rn := by omega
      have i6 : p.items.length < rn := by omega
      have hic : rn ≤ rc := by
        rcases hown.row.2 with ⟨h0, _⟩ | ⟨g', cap, cur, e', _, _, hle, _⟩
        · cases h0
        · injection e' with _ _ e3
          omega
      have i7 : (nn : Int) ≤ (rc : Int) := by omega
      have i8 : nn ≤ rc := by omega
      have i9 : ¬ rc = nn := by omega
      have i10 : (rc : Int) - (nn : Int) ≠ 0 := by omega
      have i11 : nn < rc := by omega
      have i12 : (nn : Int) < (rc : Int) := by omega
      have i13 : ¬ rc ≤ nn := by omega
      have i14 : ¬ rc - nn = 0 := by omega
      have i15 : (rn : Int) ≤ (rc : Int) := by omega
      have HO := Lib.hid hown
      have hgw := hown.row.lt g rfl
      have HNI2 := HNI.out
      clear hgn hkl hown hlt q2
      have p0 := cell_of_row wr w.heap.size 0 _ _ _ HP.out
      simp at p0
      by_cases hk2 : p.kind = 2
      · have c1 : (p.kind == 2) = true := by simpa using hk2
        obtain ⟨x, hx⟩ : ∃ x, (p.items ++ q.items)[p.items.length]? = some x := ⟨_, List.getElem?_eq_getElem (by omega)⟩
        have HR := Lib.hid (show rowB p q sep = (p.items ++ q.items).set p.items.length (x.keyed sep) by unfold rowB; rw [if_pos hk2, modify_at _ hx])
        have hrl : (rowB p q sep).length = p.items.length + q.items.length := rowB_length p q sep
        obtain ⟨y, hy⟩ : ∃ y, (rowB p q sep)[nn]? = some y := ⟨_, List.getElem?_eq_getElem (by omega)⟩
        have HQ1 := Lib.hid (show partB p q (rowB p q sep) nn = some ({ p with items := (rowB p q sep).take nn }, { q with items := y.keyed [] :: (rowB p q sep).drop (nn + 1) }, y.key) by
          unfold partB
          rw [if_pos hk2, List.getD_eq_getElem?_getD, hy, Option.getD_some, modify_drop hy])
        have HRS0 := Lib.hid (rowB_small hsm1 hsm2 hsl)
        obtain ⟨pr, hpr, _, _⟩ := HO.out.each.at_ hx
        have HX := Lib.hid hx
        have HY := Lib.hid hy
        have HPR := Lib.hid hpr
        have HRLN := Lib.hid hrl
        have HLN := Lib.hid hlen
        have HRN := Lib.hid hrn
        clear hk2 hx hy hpr hrl hlen hrn
        go_wp2_with fail
        clear p0
        refine (copyBytes_any (hs.ext hE)).mono ?_
        rintro e w4 ⟨kB, kd, rfl, ok, hE4⟩
        have hO4 := HO.out.ext hE4
        have c0 := World.ownsRow.cellAt hO4.row (p.items.length * 4) (by rw [HLN.out]; omega)
        rw [show p.items.length * 4 = p.items.length * 4 + 0 by omega, rowCells_at ps _ _ 0 pr x HPR.out HX.out (by omega), Nat.add_zero] at c0
        simp only [itCells, List.getElem?_cons_zero] at c0
        have f0 := World.ownsRow.frozenAt hO4.row (p.items.length * 4)
        have hset := hO4.setKey (k := sep) (v := .slice kB sep.length kd) HPR.out HX.out ⟨kB, kd, rfl, ok.mono (by have := (Array.getElem?_eq_some_iff.1 H9.out).1; omega)⟩ (fun a ha => by
          obtain ⟨bs, hs⟩ := HO.out.each.mem a ha
          have := hs.noShare (Nat.le_refl _) ok
          exact ⟨this, this.symm⟩)
        rw [← HR.out] at hset
        have hex := setCell_exc w4 g (p.items.length * 4) (.slice kB sep.length kd)
        have hE5 : Ext w (w4.setCell ⟨g, p.items.length * 4, none⟩ (.slice kB sep.length kd)) := hex.to_ext (hE.trans hE4) (fun k _ hk => by omega)
        have HP5 := Lib.hid (hex.blk (hE4.blk HP.out) (by omega))
        have HQ5 := Lib.hid (hex.blk (hE4.blk HQB.out) (by omega))
        have H85 := Lib.hid (hex.blk (hE4.blk H8.out) (by omega))
        have H95 := Lib.hid (hex.blk (hE4.blk H9.out) (by omega))
        have p0 := cell_of_row _ w.heap.size 0 _ _ _ HP5.out
        have p04 := cell_of_row _ w.heap.size 0 _ _ _ (hE4.blk HP.out)
        simp at p0 p04
        have hne : ¬ w.heap.size = g := by omega
        have hne2 : ¬ g = w.heap.size := by omega
        obtain ⟨ps5, hps5⟩ : ∃ l, ps.set p.items.length (.slice kB sep.length kd, pr.2) = l := ⟨_, rfl⟩
        rw [hps5] at hset
        obtain ⟨pr5, hpr5, ⟨sA, sc, hkv, hko⟩, _⟩ := hset.each.at_ HY.out
        have z0 := World.ownsRow.cellAt hset.row (nn * 4) (by rw [HRLN.out]; omega)
        rw [show nn * 4 = nn * 4 + 0 by omega, rowCells_at ps5 _ _ 0 pr5 y hpr5 HY.out (by omega), Nat.add_zero] at z0
        simp only [itCells, List.getElem?_cons_zero, hkv] at z0
        have HPR5 := Lib.hid hpr5
        have HSET := Lib.hid hset
        have HKV := Lib.hid hkv
        have HHE := Lib.hid hE5
        have hyk : y.key.length ≤ 140737488355328 := (HRS0.out y (List.mem_of_getElem? HY.out)).k
        have HKO := Lib.hid (hko.sl hyk)
        clear hset hex hO4 ok hE4 hE hko hkv hpr5 hps5 hE5 HP HQB H8 H9 HO
        go_wp2_with fail
        refine (copyBytes_any HKO.out).mono ?_
        rintro e w6 ⟨tA, tc, rfl, ot, hE6⟩
        clear c0 f0 z0 p0 p04 hne hne2
        have hO6 := HSET.out.ext hE6
        have c0 := World.ownsRow.cellAt hO6.row (nn * 4) (by rw [HRLN.out]; omega)
        rw [show nn * 4 = nn * 4 + 0 by omega, rowCells_at ps5 _ _ 0 pr5 y HPR5.out HY.out (by omega), Nat.add_zero] at c0
        simp only [itCells, List.getElem?_cons_zero] at c0
        have f0 := World.ownsRow.frozenAt hO6.row (nn * 4)
        have hset := hO6.setKey (k := []) (v := .slice none 0 0) HPR5.out HY.out (SOwn.nil _ _ _) (fun a _ => noShare_nil a)
        have hex := setCell_exc w6 g (nn * 4) (.slice none 0 0)
        have hgi : ∃ cs, w6.heap[g]? = some (.cells cs 51 (0, 0)) := by
          rcases hO6.row.2 with ⟨h0, _⟩ | ⟨g', cap, cur, e', _, hg', _⟩
          · cases h0
          · obtain rfl := sl_inj e'
            exact ⟨_, hg'⟩
        have hE7 : Ext w (w6.setCell ⟨g, nn * 4, none⟩ (.slice none 0 0)) := hex.to_ext (HHE.out.trans hE6) (fun k _ hk => by omega)
        have hsz5 : w.heap.size + 4 ≤ w6.heap.size := (Array.getElem?_eq_some_iff.1 (hE6.blk H95.out)).1
        have hot : Own 5 (w.heap.size + 4) w6 tA tc y.key := ot.mono (by have := (Array.getElem?_eq_some_iff.1 H95.out).1; omega)
        have HW := Lib.hid (show Ext w (w6.setCell ⟨g, nn * 4, none⟩ (.slice none 0 0)) ∧ (w6.setCell ⟨g, nn * 4, none⟩ (.slice none 0 0)).heap[w.heap.size]? = some (.cells #[.int .i64 p.kind, .int .i64 p.level, .slice iA p.items.length ic, .slice dA p.data.length dc, .int .i64 p.next] 26) ∧ (w6.setCell ⟨g, nn * 4, none⟩ (.slice none 0 0)).heap[w.heap.size + 1]? = some (.cells #[.int .i64 q.kind, .int .i64 q.level, .slice jA q.items.length jc, .slice eA q.data.length ec, .int .i64 q.next] 26) ∧ (w6.setCell ⟨g, nn * 4, none⟩ (.slice none 0 0)).heap[w.heap.size + 1 + 1]? = some (.cells #[.int .i64 0, .int .i64 0, .slice none 0 0, .slice none 0 0, .int .i64 0] 26) ∧ (w6.setCell ⟨g, nn * 4, none⟩ (.slice none 0 0)).heap[w.heap.size + 1 + 1 + 1]? = some (.cells #[.int .i64 0, .int .i64 0, .slice none 0 0, .slice none 0 0, .int .i64 0] 26) ∧ OwnIts (w.heap.size + 4) (w6.setCell ⟨g, nn * 4, none⟩ (.slice none 0 0)) (some ⟨g, 0, none⟩) rc ((rowB p q sep).set nn (y.keyed [])) (ps5.set nn (.slice none 0 0, pr5.2)) ∧ Own 5 (w.heap.size + 4) (w6.setCell ⟨g, nn * 4, none⟩ (.slice none 0 0)) tA tc y.key from
          ⟨hE7, hex.blk (hE6.blk HP5.out) (by omega), hex.blk (hE6.blk HQ5.out) (by omega), hex.blk (hE6.blk H85.out) (by omega), hex.blk (hE6.blk H95.out) (by omega), hset, hot.setT hgi _ _⟩)
        clear hset hex hO6 hgi hE7 hot ot hE6 HP5 HQ5 H85 H95 HSET HHE HKO
        go_wp2
        refine wp_cut (fun W => Ext w W ∧ W.heap[w.heap.size]? = some (.cells #[.int .i64 p.kind, .int .i64 p.level, .slice iA p.items.length ic, .slice dA p.data.length dc, .int .i64 p.next] 26) ∧ W.heap[w.heap.size + 1]? = some (.cells #[.int .i64 q.kind, .int .i64 q.level, .slice jA q.items.length jc, .slice eA q.data.length ec, .int .i64 q.next] 26) ∧ W.heap[w.heap.size + 1 + 1]? = some (.cells #[.int .i64 0, .int .i64 0, .slice none 0 0, .slice none 0 0, .int .i64 0] 26) ∧ W.heap[w.heap.size + 1 + 1 + 1]? = some (.cells #[.int .i64 0, .int .i64 0, .slice none 0 0, .slice none 0 0, .int .i64 0] 26) ∧ OwnIts (w.heap.size + 4) W (some ⟨g, 0, none⟩) rc ((rowB p q sep).set nn (y.keyed [])) (ps5.set nn (.slice none 0 0, pr5.2)) ∧ Own 5 (w.heap.size + 4) W tA tc y.key) ⟨HW.out.1, HW.out.2.1, HW.out.2.2.1, HW.out.2.2.2.1, HW.out.2.2.2.2.1, HW.out.2.2.2.2.2.1, HW.out.2.2.2.2.2.2⟩ ?_
        clear c0 f0 HW
        rintro w5 ⟨hE, b0, b1, b2, b3, ho, hot⟩
        have HP := Lib.hid b0
        have HQB := Lib.hid b1
        have H8 := Lib.hid b2
        have H9 := Lib.hid b3
        have OS := Lib.hid hot
        have HT1 := Lib.hid (show ((rowB p q sep).set nn (y.keyed [])).take nn = (rowB p q sep).take nn by rw [List.take_set_of_le (Nat.le_refl _)])
        have HT2 := Lib.hid (show ((rowB p q sep).set nn (y.keyed [])).drop nn = y.keyed [] :: (rowB p q sep).drop (nn + 1) by
          rw [drop_cons_of (x := y.keyed []) (by rw [List.getElem?_set_self (by rw [HRLN.out]; omega)]), List.drop_set_of_lt (by omega)])
        have HRL := Lib.hid (show ((rowB p q sep).set nn (y.keyed [])).length ≤ 2199023255552 by rw [List.length_set, HRLN.out]; omega)
        have HRS := Lib.hid (show ∀ z ∈ (rowB p q sep).set nn (y.keyed []), Small z from fun z hz => by
          rcases List.mem_or_eq_of_mem_set hz with h | rfl
          · exact HRS0.out z h
          · exact ⟨by simp [It.keyed], (HRS0.out y (List.mem_of_getElem? HY.out)).v⟩)
        obtain ⟨row2, hrow2⟩ : ∃ l, (rowB p q sep).set nn (y.keyed []) = l := ⟨_, rfl⟩
        have hl1 : row2.length ≤ p.items.length + q.items.length := by rw [← hrow2, List.length_set, HRLN.out]; exact Nat.le_refl _
        have hl2 : p.items.length + q.items.length ≤ row2.length := by rw [← hrow2, List.length_set, HRLN.out]; exact Nat.le_refl _
        rw [hrow2] at ho HRL HRS HT1 HT2
        have HO := Lib.hid ho
        have hr1 : rn ≤ p.items.length + q.items.length := by rw [HRN.out]; exact Nat.le_refl _
        have hr2 : p.items.length + q.items.length ≤ rn := by rw [HRN.out]; exact Nat.le_refl _
        clear b0 b1 b2 b3 ho hot hrow2
        refine wp_region_rg (Exc (fun k _ => k = w.heap.size + 1 + 1 ∨ k = w.heap.size + 1 + 1 + 1)) (rel_exc _) (fun w' => w'.heap[w.heap.size + 1 + 1]? = some (.cells #[.int .i64 0, .int .i64 0, .slice none 0 0, .slice none 0 0, .int .i64 0] 26) ∧ w'.heap[w.heap.size + 1 + 1 + 1]? = some (.cells #[.int .i64 0, .int .i64 0, .slice none 0 0, .slice none 0 0, .int .i64 0] 26)) [0, 1, 2, 3, 4, 5, 6, 7, 8, 9, 10, 11, 12, 13, 14] (fun i => match i with
          | 4 => some fun V v w' => PgO w5.heap.size w' v { p with items := row2.take nn }
          | 9 => some fun V v w' => PgO w5.heap.size w' v { q with items := row2.drop nn }
          | _ => none) (fun i => match i with
          | 11 => some fun V _ w' => StoredIn (w.heap.size + 1 + 1) (V 4) w' ∧ w'.heap[w.heap.size + 1 + 1 + 1]? = some (.cells #[.int .i64 0, .int .i64 0, .slice none 0 0, .slice none 0 0, .int .i64 0] 26)
          | 12 => some fun V _ w' => StoredIn (w.heap.size + 1 + 1) (V 4) w' ∧ StoredIn (w.heap.size + 1 + 1 + 1) (V 9) w'
          | _ => none) (fun _ => false) (by kernel_rfl) (by kernel_rfl) (fun _ _ h he => ⟨he.blk h.1, he.blk h.2⟩) ⟨H8.out, H9.out⟩ (fun W N hW hF0 hN => ?_)
        have hEW : Exc (fun k _ => k = w.heap.size + 1 + 1 ∨ k = w.heap.size + 1 + 1 + 1) w5 W := Exc.of_ext hW
        have hX : ∀ w', Exc (fun k _ => k = w.heap.size + 1 + 1 ∨ k = w.heap.size + 1 + 1 + 1) W w' → Ext w w' := fun w' h => (Exc.trans hEW h).to_ext hE (fun k _ hk => by omega)
        have e0 : ∀ w', Exc (fun k _ => k = w.heap.size + 1 + 1 ∨ k = w.heap.size + 1 + 1 + 1) w5 w' → w'.cell? ⟨w.heap.size, 0, none⟩ = some (.int .i64 p.kind) := fun w' h => cell_of_row _ _ _ _ _ _ (h.blk HP.out (by omega))
        have e1 : ∀ w', Exc (fun k _ => k = w.heap.size + 1 + 1 ∨ k = w.heap.size + 1 + 1 + 1) w5 w' → w'.cell? ⟨w.heap.size, 1, none⟩ = some (.int .i64 p.level) := fun w' h => cell_of_row _ _ _ _ _ _ (h.blk HP.out (by omega))
        have e2 : ∀ w', Exc (fun k _ => k = w.heap.size + 1 + 1 ∨ k = w.heap.size + 1 + 1 + 1) w5 w' → w'.cell? ⟨w.heap.size, 2, none⟩ = some (.slice iA p.items.length ic) := fun w' h => cell_of_row _ _ _ _ _ _ (h.blk HP.out (by omega))
        have e3 : ∀ w', Exc (fun k _ => k = w.heap.size + 1 + 1 ∨ k = w.heap.size + 1 + 1 + 1) w5 w' → w'.cell? ⟨w.heap.size, 3, none⟩ = some (.slice dA p.data.length dc) := fun w' h => cell_of_row _ _ _ _ _ _ (h.blk HP.out (by omega))
        have e4 : ∀ w', Exc (fun k _ => k = w.heap.size + 1 + 1 ∨ k = w.heap.size + 1 + 1 + 1) w5 w' → w'.cell? ⟨w.heap.size, 4, none⟩ = some (.int .i64 p.next) := fun w' h => cell_of_row _ _ _ _ _ _ (h.blk HP.out (by omega))
        have f0 : ∀ w', Exc (fun k _ => k = w.heap.size + 1 + 1 ∨ k = w.heap.size + 1 + 1 + 1) w5 w' → w'.cell? ⟨w.heap.size + 1, 0, none⟩ = some (.int .i64 q.kind) := fun w' h => cell_of_row _ _ _ _ _ _ (h.blk HQB.out (by omega))
        have f1 : ∀ w', Exc (fun k _ => k = w.heap.size + 1 + 1 ∨ k = w.heap.size + 1 + 1 + 1) w5 w' → w'.cell? ⟨w.heap.size + 1, 1, none⟩ = some (.int .i64 q.level) := fun w' h => cell_of_row _ _ _ _ _ _ (h.blk HQB.out (by omega))
        have f2 : ∀ w', Exc (fun k _ => k = w.heap.size + 1 + 1 ∨ k = w.heap.size + 1 + 1 + 1) w5 w' → w'.cell? ⟨w.heap.size + 1, 2, none⟩ = some (.slice jA q.items.length jc) := fun w' h => cell_of_row _ _ _ _ _ _ (h.blk HQB.out (by omega))
        have f3 : ∀ w', Exc (fun k _ => k = w.heap.size + 1 + 1 ∨ k = w.heap.size + 1 + 1 + 1) w5 w' → w'.cell? ⟨w.heap.size + 1, 3, none⟩ = some (.slice eA q.data.length ec) := fun w' h => cell_of_row _ _ _ _ _ _ (h.blk HQB.out (by omega))
        have f4 : ∀ w', Exc (fun k _ => k = w.heap.size + 1 + 1 ∨ k = w.heap.size + 1 + 1 + 1) w5 w' → w'.cell? ⟨w.heap.size + 1, 4, none⟩ = some (.int .i64 q.next) := fun w' h => cell_of_row _ _ _ _ _ _ (h.blk HQB.out (by omega))
        have hI : ∀ w', Exc (fun k _ => k = w.heap.size + 1 + 1 ∨ k = w.heap.size + 1 + 1 + 1) w5 w' → Its w' (some ⟨g, 0, none⟩) rc row2 := fun w' h => OwnIts.its (HO.out.exc h (fun k cs h1 h2 => by omega) (fun k cs h1 h2 => by omega)) HRL.out HRS.out
        have hb5 : w.heap.size + 4 ≤ w5.heap.size := (Array.getElem?_eq_some_iff.1 H9.out).1
        have hD : ∀ (k : Nat) (o : Obj), (k = w.heap.size + 1 + 1 ∨ k = w.heap.size + 1 + 1 + 1) → k < w5.heap.size := fun k _ hk => by omega
        repeat (first | (apply wpR_one; (case ho => (simp only [List.getElem?_toArray, List.getElem?_cons_succ, List.getElem?_cons_zero]; try exact rfl)); (case hw => rfl); (case hl => rfl); (case hsp => rfl); (case he => rfl); (case hv => (intro w' hw'; (try (have hw2 := Ext.trans hEW hw')); (try (have hw3 := Exc.trans hEW hw')); (try (have hw4 := Exk.trans hEW hw')); (try (have hw5 := Mrk.trans hEW hw')); go_simp; exact rfl)); (case hw0 => (first | exact Below.refl _ _ | exact Exc.of_ext (Below.refl _ _) | exact Exk.of_ext (Below.refl _ _) | exact Mrk.of_ext (Below.refl _ _))); simp only [Act.put, List.setIfInBounds_toArray, List.set_cons_succ, List.set_cons_zero]) | (apply wpR_early; (case ho => (simp only [List.getElem?_toArray, List.getElem?_cons_succ, List.getElem?_cons_zero]; try exact rfl)); (case hw => rfl); (case hl => rfl); (case hsp => rfl); (case he => rfl); (case hv => (intro w' hw'; (try have hw2 := Ext.trans hEW hw'); go_simp; exact rfl)); simp only [Act.put, List.setIfInBounds_toArray, List.set_cons_succ, List.set_cons_zero]) | (apply wpR_pass; (case ho => (simp only [List.getElem?_toArray, List.getElem?_cons_succ, List.getElem?_cons_zero]; try exact rfl)); (case hw => rfl); (case hl => rfl); simp only [Act.put, List.setIfInBounds_toArray, List.set_cons_succ, List.set_cons_zero]))
        refine wpR_new (by ((simp only [List.getElem?_toArray, List.getElem?_cons_succ, List.getElem?_cons_zero]; try exact rfl))) _ rfl rfl rfl (fun V v => PgO.lasts hD _ _) (fun V V' h => rfl) (fun w' hw' hK => ?_) (fun v hv => ?_)
        · have HX := Lib.hid (hX w' hw')
          have HI := Lib.hid (hI w' (hEW.trans hw'))
          clear hK
          unfold opAt; go_simp; refine upAt_enter ?_
          refine (rwith_any (hv0.ext HX.out) (HI.out.take nn rc (by simp; omega) HI.out.cap) (by simp; omega)).mono ?_
          rintro e w2 ⟨v', rfl, hO, hE2⟩
          exact ⟨_, rfl, hE2, hO.mono (hEW.trans hw').size⟩
        obtain ⟨iA3, dA3, ic3, dc3, n3, HN3, rfl⟩ : ∃ iA' dA' ic' dc' n', Hid (n' = (row2.take nn).length) ∧ v = .agg #[.int .i64 p.kind, .int .i64 p.level, .slice iA' n' ic', .slice dA' p.data.length dc', .int .i64 p.next] := by
          obtain ⟨_, _, _, hO⟩ := hv
          obtain ⟨iA', ic', dA', dc', ps, e, _⟩ := hO.ex
          exact ⟨_, _, _, _, _, Lib.hid rfl, e⟩
        clear hv
        simp only [Act.put, List.setIfInBounds_toArray, List.set_cons_succ, List.set_cons_zero]
        repeat (first | (apply wpR_one; (case ho => (simp only [List.getElem?_toArray, List.getElem?_cons_succ, List.getElem?_cons_zero]; try exact rfl)); (case hw => rfl); (case hl => rfl); (case hsp => rfl); (case he => rfl); (case hv => (intro w' hw'; (try (have hw2 := Ext.trans hEW hw')); (try (have hw3 := Exc.trans hEW hw')); (try (have hw4 := Exk.trans hEW hw')); (try (have hw5 := Mrk.trans hEW hw')); go_simp; exact rfl)); (case hw0 => (first | exact Below.refl _ _ | exact Exc.of_ext (Below.refl _ _) | exact Exk.of_ext (Below.refl _ _) | exact Mrk.of_ext (Below.refl _ _))); simp only [Act.put, List.setIfInBounds_toArray, List.set_cons_succ, List.set_cons_zero]) | (apply wpR_early; (case ho => (simp only [List.getElem?_toArray, List.getElem?_cons_succ, List.getElem?_cons_zero]; try exact rfl)); (case hw => rfl); (case hl => rfl); (case hsp => rfl); (case he => rfl); (case hv => (intro w' hw'; (try have hw2 := Ext.trans hEW hw'); go_simp; exact rfl)); simp only [Act.put, List.setIfInBounds_toArray, List.set_cons_succ, List.set_cons_zero]) | (apply wpR_pass; (case ho => (simp only [List.getElem?_toArray, List.getElem?_cons_succ, List.getElem?_cons_zero]; try exact rfl)); (case hw => rfl); (case hl => rfl); simp only [Act.put, List.setIfInBounds_toArray, List.set_cons_succ, List.set_cons_zero]))
        refine wpR_new (by ((simp only [List.getElem?_toArray, List.getElem?_cons_succ, List.getElem?_cons_zero]; try exact rfl))) _ rfl rfl rfl (fun V v => PgO.lasts hD _ _) (fun V V' h => rfl) (fun w' hw' hK => ?_) (fun v hv => ?_)
        · have HX := Lib.hid (hX w' hw')
          have HI := Lib.hid (hI w' (hEW.trans hw'))
          clear hK
          unfold opAt; go_simp; refine upAt_enter ?_
          have hdr : Its w' (some ⟨g, nn * 4, none⟩) (rc - nn) (row2.drop nn) := by
            have := Its.drop HI.out nn (by omega)
            rwa [Nat.zero_add] at this
          refine (rwith_any (hu0.ext HX.out) hdr (by rw [List.length_drop]; omega)).mono ?_
          rintro e w2 ⟨v', rfl, hO, hE2⟩
          exact ⟨_, rfl, hE2, hO.mono (hEW.trans hw').size⟩
        obtain ⟨iA4, dA4, ic4, dc4, n4, HN4, rfl⟩ : ∃ iA' dA' ic' dc' n', Hid (n' = (row2.drop nn).length) ∧ v = .agg #[.int .i64 q.kind, .int .i64 q.level, .slice iA' n' ic', .slice dA' q.data.length dc', .int .i64 q.next] := by
          obtain ⟨_, _, _, hO⟩ := hv
          obtain ⟨iA', ic', dA', dc', ps, e, _⟩ := hO.ex
          exact ⟨_, _, _, _, _, Lib.hid rfl, e⟩
        clear hv
        simp only [Act.put, List.setIfInBounds_toArray, List.set_cons_succ, List.set_cons_zero]
        repeat (first | (apply wpR_one; (case ho => (simp only [List.getElem?_toArray, List.getElem?_cons_succ, List.getElem?_cons_zero]; try exact rfl)); (case hw => rfl); (case hl => rfl); (case hsp => rfl); (case he => rfl); (case hv => (intro w' hw'; (try (have hw2 := Ext.trans hEW hw')); (try (have hw3 := Exc.trans hEW hw')); (try (have hw4 := Exk.trans hEW hw')); (try (have hw5 := Mrk.trans hEW hw')); go_simp; exact rfl)); (case hw0 => (first | exact Below.refl _ _ | exact Exc.of_ext (Below.refl _ _) | exact Exk.of_ext (Below.refl _ _) | exact Mrk.of_ext (Below.refl _ _))); simp only [Act.put, List.setIfInBounds_toArray, List.set_cons_succ, List.set_cons_zero]) | (apply wpR_early; (case ho => (simp only [List.getElem?_toArray, List.getElem?_cons_succ, List.getElem?_cons_zero]; try exact rfl)); (case hw => rfl); (case hl => rfl); (case hsp => rfl); (case he => rfl); (case hv => (intro w' hw'; (try have hw2 := Ext.trans hEW hw'); go_simp; exact rfl)); simp only [Act.put, List.setIfInBounds_toArray, List.set_cons_succ, List.set_cons_zero]) | (apply wpR_pass; (case ho => (simp only [List.getElem?_toArray, List.getElem?_cons_succ, List.getElem?_cons_zero]; try exact rfl)); (case hw => rfl); (case hl => rfl); simp only [Act.put, List.setIfInBounds_toArray, List.set_cons_succ, List.set_cons_zero]))
        refine wpR_late (by ((simp only [List.getElem?_toArray, List.getElem?_cons_succ, List.getElem?_cons_zero]; try exact rfl))) _ rfl rfl (fun V v w' w2 h he => ⟨h.1.ext' he, he.blk h.2⟩) (fun V V' h => by simp only [h 4 (by kernel_rfl)]) (fun w' hw' hK hF => ?_) (fun v hv => ?_)
        · refine opAt_list rfl #[] (fun Q hQ => ?_)
          refine wpList_store_box rfl 26 _ _ rfl (w.heap.size + 1 + 1) _ rfl rfl 26 _ hF.1 (by kernel_rfl) rfl (by simp [Value.oneCell']) (fun w2 hb hg => ?_)
          exact hQ _ _ ⟨Exc.of_only hg (fun _ _ => .inl rfl), ⟨_, rfl, hb⟩, blk_other hF.2 hg (by omega)⟩
        clear hv
        simp only [Act.put, List.setIfInBounds_toArray, List.set_cons_succ, List.set_cons_zero]
        refine wpR_late (by ((simp only [List.getElem?_toArray, List.getElem?_cons_succ, List.getElem?_cons_zero]; try exact rfl))) _ rfl rfl (fun V v w' w2 h he => ⟨h.1.ext' he, h.2.ext' he⟩) (fun V V' h => by simp only [h 4 (by kernel_rfl), h 9 (by kernel_rfl)]) (fun w' hw' hK hF => ?_) (fun v hv => ?_)
        · obtain ⟨hF1, hF2⟩ := hF
          obtain ⟨cs1, e1', hF1⟩ := hF1
          refine opAt_list rfl #[] (fun Q hQ => ?_)
          refine wpList_store_box rfl 26 _ _ rfl (w.heap.size + 1 + 1 + 1) _ rfl rfl 26 _ hF2 (by kernel_rfl) rfl (by simp [Value.oneCell']) (fun w2 hb hg => ?_)
          exact hQ _ _ ⟨Exc.of_only hg (fun _ _ => .inr rfl), ⟨_, e1', blk_other hF1 hg (by omega)⟩, ⟨_, rfl, hb⟩⟩
        clear hv
        simp only [Act.put, List.setIfInBounds_toArray, List.set_cons_succ, List.set_cons_zero]
        repeat (first | (apply wpR_one; (case ho => (simp only [List.getElem?_toArray, List.getElem?_cons_succ, List.getElem?_cons_zero]; try exact rfl)); (case hw => rfl); (case hl => rfl); (case hsp => rfl); (case he => rfl); (case hv => (intro w' hw'; (try (have hw2 := Ext.trans hEW hw')); (try (have hw3 := Exc.trans hEW hw')); (try (have hw4 := Exk.trans hEW hw')); (try (have hw5 := Mrk.trans hEW hw')); go_simp; exact rfl)); (case hw0 => (first | exact Below.refl _ _ | exact Exc.of_ext (Below.refl _ _) | exact Exk.of_ext (Below.refl _ _) | exact Mrk.of_ext (Below.refl _ _))); simp only [Act.put, List.setIfInBounds_toArray, List.set_cons_succ, List.set_cons_zero]) | (apply wpR_early; (case ho => (simp only [List.getElem?_toArray, List.getElem?_cons_succ, List.getElem?_cons_zero]; try exact rfl)); (case hw => rfl); (case hl => rfl); (case hsp => rfl); (case he => rfl); (case hv => (intro w' hw'; (try have hw2 := Ext.trans hEW hw'); go_simp; exact rfl)); simp only [Act.put, List.setIfInBounds_toArray, List.set_cons_succ, List.set_cons_zero]) | (apply wpR_pass; (case ho => (simp only [List.getElem?_toArray, List.getElem?_cons_succ, List.getElem?_cons_zero]; try exact rfl)); (case hw => rfl); (case hl => rfl); simp only [Act.put, List.setIfInBounds_toArray, List.set_cons_succ, List.set_cons_zero]))
        apply wpR_nil
        apply hN
        intro w9 hE9 hK hF
        obtain ⟨r1, r2⟩ := hF
        have o1 : PgO w5.heap.size w9 _ { p with items := row2.take nn } := (hK 4).2
        have o2 : PgO w5.heap.size w9 _ { q with items := row2.drop nn } := (hK 9).2
        obtain ⟨cs1, e1', r1⟩ := r1
        have e1'' : Value.agg #[.int .i64 p.kind, .int .i64 p.level, .slice iA3 n3 ic3, .slice dA3 p.data.length dc3, .int .i64 p.next] = _ := e1'
        injection e1'' with e1''
        subst e1''
        obtain ⟨cs2, e2', r2⟩ := r2
        have e2'' : Value.agg #[.int .i64 q.kind, .int .i64 q.level, .slice iA4 n4 ic4, .slice dA4 q.data.length dc4, .int .i64 q.next] = _ := e2'
        injection e2'' with e2''
        subst e2''
        have hx9 := hEW.trans hE9
        have hE' : Ext w w9 := hX w9 hE9
        have R1 := Lib.hid o1
        have R2 := Lib.hid o2
        have R3 := Lib.hid (ownsRow_exc OS.out hx9 (fun k cs h1 h2 => by omega))
        clear hK hN e0 e1 e2 e3 e4 f0 f1 f2 f3 f4 hEW hE9 hx9 hW hF0 hX hI o1 o2
        go_wp2
        refine bodyPost_ret (results_rrtt rfl _ _ _ _ _ _ _ _ _ _ _ _ rfl r1 Try.underlying26 rfl (by kernel_rfl) rfl r2 Try.underlying26 rfl (by kernel_rfl)) rfl ⟨_, _, _, _, by rw [HQ0.out, HQ1.out]; rfl, by rw [HQ0.out, HQ1.out]; rw [← HT1.out]; exact R1.out.mono (B' := w.heap.size) (by omega), ?_, ?_, hE'⟩
        · rw [HQ0.out, HQ1.out]; rw [← HT2.out]; exact R2.out.mono (B' := w.heap.size) (by omega)
        · rw [HQ0.out, HQ1.out]; exact ownsRow_mono (B' := w.heap.size) R3.out (by omega)
      · have c1 : (p.kind == 2) = false := by simpa using hk2
        obtain ⟨x, hx⟩ : ∃ x, (p.items ++ q.items)[nn]? = some x := ⟨_, List.getElem?_eq_getElem (by omega)⟩
        obtain ⟨y, hy⟩ : ∃ y, (p.items ++ q.items)[nn - 1]? = some y := ⟨_, List.getElem?_eq_getElem (by omega)⟩
        have HQ1 := Lib.hid (show partB p q (rowB p q sep) nn = (betwB y.key x.key).map fun s => ({ p with items := (p.items ++ q.items).take nn }, { q with items := (p.items ++ q.items).drop nn }, s) by
          unfold partB rowB
          rw [if_neg hk2, if_neg hk2, List.getD_eq_getElem?_getD, List.getD_eq_getElem?_getD, hx, hy]
          rfl)
        have HRL := Lib.hid (show (p.items ++ q.items).length ≤ 2199023255552 by omega)
        have HRS := Lib.hid (show ∀ z ∈ p.items ++ q.items, Small z from fun z hz => by
          rcases List.mem_append.1 hz with h | h
          · exact hsm1.each z h
          · exact hsm2.each z h)
        obtain ⟨_, _, hcx⟩ := (HO.out.its HRL.out HRS.out).rd (by omega)
        obtain ⟨hA0, hcx⟩ := hcx
        simp only [Option.some.injEq, Addr.mk.injEq, and_true] at hA0
        obtain ⟨rfl, rfl⟩ := hA0
        obtain ⟨lA, lc, _, _, z0, _, _, _, zk, _⟩ := hcx (nn - 1) y hy
        obtain ⟨mA, mc, _, _, z1, _, _, _, xk, _⟩ := hcx nn x hx
        rw [Nat.zero_add] at z0 z1
        have hwr : IntKind.i64.wrap ((nn : Int) - 1) = (nn : Int) - 1 := IntWalk.i64_in _ (by omega)
        have hto : ((nn : Int) - 1).toNat = nn - 1 := by omega
        have j1 : (nn : Int) - 1 < (rn : Int) := by omega
        have j2 : (0 : Int) ≤ (nn : Int) - 1 := by omega
        have j3 : (1 : Int) ≤ (nn : Int) := by omega
        clear hx hy hcx hk2 hrn hlen
        go_wp2
        clear p0 c1
        have ez0 : ∀ w', Ext wr w' → w'.cell? ⟨g, (nn - 1) * 4, none⟩ = some (.slice lA y.key.length lc) := fun w' h => h.cell z0
        have ez1 : ∀ w', Ext wr w' → w'.cell? ⟨g, nn * 4, none⟩ = some (.slice mA x.key.length mc) := fun w' h => h.cell z1
        refine wp_region_rg Ext rel_ext (fun _ => True) [0, 1, 2, 3, 4, 5, 6, 7, 8, 9, 10, 11, 12, 13, 14, 15, 16] (fun i => match i with
          | 11 => some fun _ => BtwIn wr.heap.size y.key x.key
          | _ => none) (fun _ => none) (fun _ => false) (by kernel_rfl) (by kernel_rfl) (fun _ _ _ _ => trivial) trivial (fun W N hW _ hN => ?_)
        have hEW : Ext wr W := hW
        repeat (first | (apply wpR_one; (case ho => (simp only [List.getElem?_toArray, List.getElem?_cons_succ, List.getElem?_cons_zero]; try exact rfl)); (case hw => rfl); (case hl => rfl); (case hsp => rfl); (case he => rfl); (case hv => (intro w' hw'; (try (have hw2 := Ext.trans hEW hw')); (try (have hw3 := Exc.trans hEW hw')); (try (have hw4 := Exk.trans hEW hw')); (try (have hw5 := Mrk.trans hEW hw')); go_simp; exact rfl)); (case hw0 => (first | exact Below.refl _ _ | exact Exc.of_ext (Below.refl _ _) | exact Exk.of_ext (Below.refl _ _) | exact Mrk.of_ext (Below.refl _ _))); simp only [Act.put, List.setIfInBounds_toArray, List.set_cons_succ, List.set_cons_zero]) | (apply wpR_early; (case ho => (simp only [List.getElem?_toArray, List.getElem?_cons_succ, List.getElem?_cons_zero]; try exact rfl)); (case hw => rfl); (case hl => rfl); (case hsp => rfl); (case he => rfl); (case hv => (intro w' hw'; (try have hw2 := Ext.trans hEW hw'); go_simp; exact rfl)); simp only [Act.put, List.setIfInBounds_toArray, List.set_cons_succ, List.set_cons_zero]) | (apply wpR_pass; (case ho => (simp only [List.getElem?_toArray, List.getElem?_cons_succ, List.getElem?_cons_zero]; try exact rfl)); (case hw => rfl); (case hl => rfl); simp only [Act.put, List.setIfInBounds_toArray, List.set_cons_succ, List.set_cons_zero]))
        refine wpR_new (by ((simp only [List.getElem?_toArray, List.getElem?_cons_succ, List.getElem?_cons_zero]; try exact rfl))) _ rfl rfl rfl (fun V v => BtwIn.lasts _ _ _ _) (fun V V' h => rfl) (fun w' hw' hK => ?_) (fun v hv => ?_)
        · have HX := Lib.hid (hEW.trans hw')
          have HY := Lib.hid (hEW.trans hw').size
          clear hK
          unfold opAt; go_simp; refine upAt_enter ?_
          refine (rbetween_any (zk.ext HX.out) (xk.ext HX.out) rfl rfl).mono ?_
          rintro e w2 ⟨A6, c6, rfl, ho, hE6⟩
          exact ⟨_, rfl, hE6, A6, c6, _, _, rfl, Lib.hid rfl, Lib.hid rfl, ho.mono HY.out⟩
        obtain ⟨A6, c6, n6, z6, HN6, HZ6, rfl⟩ : ∃ A c n z, Hid (n = (betwK y.key x.key).length) ∧ Hid (z = (betwB y.key x.key).isSome) ∧ v = .tuple #[.slice A n c, .bool z] := by
          obtain ⟨_, _, _, A, c, n, z, h, h1, h2, _⟩ := hv
          exact ⟨A, c, n, z, h1, h2, h⟩
        clear hv
        simp only [Act.put, List.setIfInBounds_toArray, List.set_cons_succ, List.set_cons_zero]
        repeat (first | (apply wpR_one; (case ho => (simp only [List.getElem?_toArray, List.getElem?_cons_succ, List.getElem?_cons_zero]; try exact rfl)); (case hw => rfl); (case hl => rfl); (case hsp => rfl); (case he => rfl); (case hv => (intro w' hw'; (try (have hw2 := Ext.trans hEW hw')); (try (have hw3 := Exc.trans hEW hw')); (try (have hw4 := Exk.trans hEW hw')); (try (have hw5 := Mrk.trans hEW hw')); go_simp; exact rfl)); (case hw0 => (first | exact Below.refl _ _ | exact Exc.of_ext (Below.refl _ _) | exact Exk.of_ext (Below.refl _ _) | exact Mrk.of_ext (Below.refl _ _))); simp only [Act.put, List.setIfInBounds_toArray, List.set_cons_succ, List.set_cons_zero]) | (apply wpR_early; (case ho => (simp only [List.getElem?_toArray, List.getElem?_cons_succ, List.getElem?_cons_zero]; try exact rfl)); (case hw => rfl); (case hl => rfl); (case hsp => rfl); (case he => rfl); (case hv => (intro w' hw'; (try have hw2 := Ext.trans hEW hw'); go_simp; exact rfl)); simp only [Act.put, List.setIfInBounds_toArray, List.set_cons_succ, List.set_cons_zero]) | (apply wpR_pass; (case ho => (simp only [List.getElem?_toArray, List.getElem?_cons_succ, List.getElem?_cons_zero]; try exact rfl)); (case hw => rfl); (case hl => rfl); simp only [Act.put, List.setIfInBounds_toArray, List.set_cons_succ, List.set_cons_zero]))
        apply wpR_nil
        apply hN
        intro w5 hE' hK _
        have hk := (hK 11).2
        have OS : Hid (Own 5 (w.heap.size + 4) w5 A6 c6 (betwK y.key x.key)) := by
          obtain ⟨A7, c7, n7, z7, e, _, _, ho⟩ := hk
          have e' : Value.tuple #[.slice A6 n6 c6, .bool z6] = Value.tuple #[.slice A7 n7 c7, .bool z7] := e
          simp only [Value.tuple.injEq, Array.mk.injEq, List.cons.injEq, Value.slice.injEq] at e'
          obtain ⟨⟨rfl, _, rfl⟩, _⟩ := e'
          exact Lib.hid (ho.mono (by omega))
        have hE5 := hEW.trans hE'
        replace hE := hE.trans hE5
        replace HP := Lib.hid (hE5.blk HP.out)
        replace HQB := Lib.hid (hE5.blk HQB.out)
        replace H8 := Lib.hid (hE5.blk H8.out)
        replace H9 := Lib.hid (hE5.blk H9.out)
        replace HO := Lib.hid (HO.out.ext hE5)
        clear hK hN hk ez0 ez1 hEW hE' hW z0 z1 zk xk hwr hto j1 j2 hE5
        have hrn : rn = p.items.length + q.items.length := HL.out
        have hlen : (p.items ++ q.items).length = p.items.length + q.items.length := by simp
        cases z6
        · have HQ := Lib.hid (show lendB p q sep true = none by
            rw [HQ0.out, HQ1.out]
            have := HZ6.out
            cases h : betwB y.key x.key with
            | none => rfl
            | some s => rw [h] at this; cases this)
          have b2 := H8.out
          have b3 := H9.out
          clear hrn hlen
          go_wp2_with (first | (with_reducible refine wpList_store_at 26 (.tmp 8) (.tmp 148) (w.heap.size + 1 + 1) _ rfl rfl 26 _ b2 ?_ rfl ?_ (fun w8 hb hg => ?_); (· kernel_rfl); (· simp [Value.oneCell']); have b3' := blk_other b3 hg (by omega); have hE6 := ext_only hE hg (by omega)) | (with_reducible refine wpList_store_at 26 (.tmp 9) (.tmp 149) (w.heap.size + 1 + 1 + 1) _ rfl rfl 26 _ b3' ?_ rfl ?_ (fun w9 hb' hg' => ?_); (· kernel_rfl); (· simp [Value.oneCell'])))
          refine bodyPost_ret (results_rrtt rfl _ _ _ _ _ _ _ _ _ _ _ _ rfl (blk_other hb hg' (by omega)) Try.underlying26 rfl (by kernel_rfl) rfl hb' Try.underlying26 rfl (by kernel_rfl)) rfl ⟨_, _, none, 0, by rw [HQ.out]; rfl, by rw [HQ.out]; exact PgO.zero _ _, ?_, ?_, ext_only hE6 hg' (by omega)⟩
          · rw [HQ.out]; exact PgO.zero _ _
          · rw [HQ.out]; exact ⟨rfl, .inl ⟨rfl, rfl⟩⟩
        · have HQ := Lib.hid (show partB p q (rowB p q sep) nn = some ({ p with items := (p.items ++ q.items).take nn }, { q with items := (p.items ++ q.items).drop nn }, betwK y.key x.key) by
            rw [HQ1.out]
            have := HZ6.out
            cases h : betwB y.key x.key with
            | none => rw [h] at this; cases this
            | some s => rw [betwK_some h]; rfl)
          have HLN := Lib.hid hlen
          have HRN := Lib.hid hrn
          clear hrn hlen
          go_wp2
          have hl1 : (p.items ++ q.items).length ≤ p.items.length + q.items.length := by rw [HLN.out]; exact Nat.le_refl _
          have hl2 : p.items.length + q.items.length ≤ (p.items ++ q.items).length := by rw [HLN.out]; exact Nat.le_refl _
          have hr1 : rn ≤ p.items.length + q.items.length := by rw [HRN.out]; exact Nat.le_refl _
          have hr2 : p.items.length + q.items.length ≤ rn := by rw [HRN.out]; exact Nat.le_refl _
          refine wp_region_rg (Exc (fun k _ => k = w.heap.size + 1 + 1 ∨ k = w.heap.size + 1 + 1 + 1)) (rel_exc _) (fun w' => w'.heap[w.heap.size + 1 + 1]? = some (.cells #[.int .i64 0, .int .i64 0, .slice none 0 0, .slice none 0 0, .int .i64 0] 26) ∧ w'.heap[w.heap.size + 1 + 1 + 1]? = some (.cells #[.int .i64 0, .int .i64 0, .slice none 0 0, .slice none 0 0, .int .i64 0] 26)) [0, 1, 2, 3, 4, 5, 6, 7, 8, 9, 10, 11, 12, 13, 14] (fun i => match i with
            | 4 => some fun V v w' => PgO w5.heap.size w' v { p with items := (p.items ++ q.items).take nn }
            | 9 => some fun V v w' => PgO w5.heap.size w' v { q with items := (p.items ++ q.items).drop nn }
            | _ => none) (fun i => match i with
            | 11 => some fun V _ w' => StoredIn (w.heap.size + 1 + 1) (V 4) w' ∧ w'.heap[w.heap.size + 1 + 1 + 1]? = some (.cells #[.int .i64 0, .int .i64 0, .slice none 0 0, .slice none 0 0, .int .i64 0] 26)
            | 12 => some fun V _ w' => StoredIn (w.heap.size + 1 + 1) (V 4) w' ∧ StoredIn (w.heap.size + 1 + 1 + 1) (V 9) w'
            | _ => none) (fun _ => false) (by kernel_rfl) (by kernel_rfl) (fun _ _ h he => ⟨he.blk h.1, he.blk h.2⟩) ⟨H8.out, H9.out⟩ (fun W N hW hF0 hN => ?_)
          have hEW : Exc (fun k _ => k = w.heap.size + 1 + 1 ∨ k = w.heap.size + 1 + 1 + 1) w5 W := Exc.of_ext hW
          have hX : ∀ w', Exc (fun k _ => k = w.heap.size + 1 + 1 ∨ k = w.heap.size + 1 + 1 + 1) W w' → Ext w w' := fun w' h => (Exc.trans hEW h).to_ext hE (fun k _ hk => by omega)
          have e0 : ∀ w', Exc (fun k _ => k = w.heap.size + 1 + 1 ∨ k = w.heap.size + 1 + 1 + 1) w5 w' → w'.cell? ⟨w.heap.size, 0, none⟩ = some (.int .i64 p.kind) := fun w' h => cell_of_row _ _ _ _ _ _ (h.blk HP.out (by omega))
          have e1 : ∀ w', Exc (fun k _ => k = w.heap.size + 1 + 1 ∨ k = w.heap.size + 1 + 1 + 1) w5 w' → w'.cell? ⟨w.heap.size, 1, none⟩ = some (.int .i64 p.level) := fun w' h => cell_of_row _ _ _ _ _ _ (h.blk HP.out (by omega))
          have e2 : ∀ w', Exc (fun k _ => k = w.heap.size + 1 + 1 ∨ k = w.heap.size + 1 + 1 + 1) w5 w' → w'.cell? ⟨w.heap.size, 2, none⟩ = some (.slice iA p.items.length ic) := fun w' h => cell_of_row _ _ _ _ _ _ (h.blk HP.out (by omega))
          have e3 : ∀ w', Exc (fun k _ => k = w.heap.size + 1 + 1 ∨ k = w.heap.size + 1 + 1 + 1) w5 w' → w'.cell? ⟨w.heap.size, 3, none⟩ = some (.slice dA p.data.length dc) := fun w' h => cell_of_row _ _ _ _ _ _ (h.blk HP.out (by omega))
          have e4 : ∀ w', Exc (fun k _ => k = w.heap.size + 1 + 1 ∨ k = w.heap.size + 1 + 1 + 1) w5 w' → w'.cell? ⟨w.heap.size, 4, none⟩ = some (.int .i64 p.next) := fun w' h => cell_of_row _ _ _ _ _ _ (h.blk HP.out (by omega))
          have f0 : ∀ w', Exc (fun k _ => k = w.heap.size + 1 + 1 ∨ k = w.heap.size + 1 + 1 + 1) w5 w' → w'.cell? ⟨w.heap.size + 1, 0, none⟩ = some (.int .i64 q.kind) := fun w' h => cell_of_row _ _ _ _ _ _ (h.blk HQB.out (by omega))
          have f1 : ∀ w', Exc (fun k _ => k = w.heap.size + 1 + 1 ∨ k = w.heap.size + 1 + 1 + 1) w5 w' → w'.cell? ⟨w.heap.size + 1, 1, none⟩ = some (.int .i64 q.level) := fun w' h => cell_of_row _ _ _ _ _ _ (h.blk HQB.out (by omega))
          have f2 : ∀ w', Exc (fun k _ => k = w.heap.size + 1 + 1 ∨ k = w.heap.size + 1 + 1 + 1) w5 w' → w'.cell? ⟨w.heap.size + 1, 2, none⟩ = some (.slice jA q.items.length jc) := fun w' h => cell_of_row _ _ _ _ _ _ (h.blk HQB.out (by omega))
          have f3 : ∀ w', Exc (fun k _ => k = w.heap.size + 1 + 1 ∨ k = w.heap.size + 1 + 1 + 1) w5 w' → w'.cell? ⟨w.heap.size + 1, 3, none⟩ = some (.slice eA q.data.length ec) := fun w' h => cell_of_row _ _ _ _ _ _ (h.blk HQB.out (by omega))
          have f4 : ∀ w', Exc (fun k _ => k = w.heap.size + 1 + 1 ∨ k = w.heap.size + 1 + 1 + 1) w5 w' → w'.cell? ⟨w.heap.size + 1, 4, none⟩ = some (.int .i64 q.next) := fun w' h => cell_of_row _ _ _ _ _ _ (h.blk HQB.out (by omega))
          have hI : ∀ w', Exc (fun k _ => k = w.heap.size + 1 + 1 ∨ k = w.heap.size + 1 + 1 + 1) w5 w' → Its w' (some ⟨g, 0, none⟩) rc (p.items ++ q.items) := fun w' h => OwnIts.its (HO.out.exc h (fun k cs h1 h2 => by omega) (fun k cs h1 h2 => by omega)) HRL.out HRS.out
          have hb5 : w.heap.size + 4 ≤ w5.heap.size := (Array.getElem?_eq_some_iff.1 H9.out).1
          have hD : ∀ (k : Nat) (o : Obj), (k = w.heap.size + 1 + 1 ∨ k = w.heap.size + 1 + 1 + 1) → k < w5.heap.size := fun k _ hk => by omega
          repeat (first | (apply wpR_one; (case ho => (simp only [List.getElem?_toArray, List.getElem?_cons_succ, List.getElem?_cons_zero]; try exact rfl)); (case hw => rfl); (case hl => rfl); (case hsp => rfl); (case he => rfl); (case hv => (intro w' hw'; (try (have hw2 := Ext.trans hEW hw')); (try (have hw3 := Exc.trans hEW hw')); (try (have hw4 := Exk.trans hEW hw')); (try (have hw5 := Mrk.trans hEW hw')); go_simp; exact rfl)); (case hw0 => (first | exact Below.refl _ _ | exact Exc.of_ext (Below.refl _ _) | exact Exk.of_ext (Below.refl _ _) | exact Mrk.of_ext (Below.refl _ _))); simp only [Act.put, List.setIfInBounds_toArray, List.set_cons_succ, List.set_cons_zero]) | (apply wpR_early; (case ho => (simp only [List.getElem?_toArray, List.getElem?_cons_succ, List.getElem?_cons_zero]; try exact rfl)); (case hw => rfl); (case hl => rfl); (case hsp => rfl); (case he => rfl); (case hv => (intro w' hw'; (try have hw2 := Ext.trans hEW hw'); go_simp; exact rfl)); simp only [Act.put, List.setIfInBounds_toArray, List.set_cons_succ, List.set_cons_zero]) | (apply wpR_pass; (case ho => (simp only [List.getElem?_toArray, List.getElem?_cons_succ, List.getElem?_cons_zero]; try exact rfl)); (case hw => rfl); (case hl => rfl); simp only [Act.put, List.setIfInBounds_toArray, List.set_cons_succ, List.set_cons_zero]))
          refine wpR_new (by ((simp only [List.getElem?_toArray, List.getElem?_cons_succ, List.getElem?_cons_zero]; try exact rfl))) _ rfl rfl rfl (fun V v => PgO.lasts hD _ _) (fun V V' h => rfl) (fun w' hw' hK => ?_) (fun v hv => ?_)
          · have HX := Lib.hid (hX w' hw')
            have HI := Lib.hid (hI w' (hEW.trans hw'))
            clear hK
            unfold opAt; go_simp; refine upAt_enter ?_
            refine (rwith_any (hv0.ext HX.out) (HI.out.take nn rc (by simp; omega) HI.out.cap) (by simp; omega)).mono ?_
            rintro e w2 ⟨v', rfl, hO, hE2⟩
            exact ⟨_, rfl, hE2, hO.mono (hEW.trans hw').size⟩
          obtain ⟨iA3, dA3, ic3, dc3, n3, HN3, rfl⟩ : ∃ iA' dA' ic' dc' n', Hid (n' = ((p.items ++ q.items).take nn).length) ∧ v = .agg #[.int .i64 p.kind, .int .i64 p.level, .slice iA' n' ic', .slice dA' p.data.length dc', .int .i64 p.next] := by
            obtain ⟨_, _, _, hO⟩ := hv
            obtain ⟨iA', ic', dA', dc', ps, e, _⟩ := hO.ex
            exact ⟨_, _, _, _, _, Lib.hid rfl, e⟩
          clear hv
          simp only [Act.put, List.setIfInBounds_toArray, List.set_cons_succ, List.set_cons_zero]
          repeat (first | (apply wpR_one; (case ho => (simp only [List.getElem?_toArray, List.getElem?_cons_succ, List.getElem?_cons_zero]; try exact rfl)); (case hw => rfl); (case hl => rfl); (case hsp => rfl); (case he => rfl); (case hv => (intro w' hw'; (try (have hw2 := Ext.trans hEW hw')); (try (have hw3 := Exc.trans hEW hw')); (try (have hw4 := Exk.trans hEW hw')); (try (have hw5 := Mrk.trans hEW hw')); go_simp; exact rfl)); (case hw0 => (first | exact Below.refl _ _ | exact Exc.of_ext (Below.refl _ _) | exact Exk.of_ext (Below.refl _ _) | exact Mrk.of_ext (Below.refl _ _))); simp only [Act.put, List.setIfInBounds_toArray, List.set_cons_succ, List.set_cons_zero]) | (apply wpR_early; (case ho => (simp only [List.getElem?_toArray, List.getElem?_cons_succ, List.getElem?_cons_zero]; try exact rfl)); (case hw => rfl); (case hl => rfl); (case hsp => rfl); (case he => rfl); (case hv => (intro w' hw'; (try have hw2 := Ext.trans hEW hw'); go_simp; exact rfl)); simp only [Act.put, List.setIfInBounds_toArray, List.set_cons_succ, List.set_cons_zero]) | (apply wpR_pass; (case ho => (simp only [List.getElem?_toArray, List.getElem?_cons_succ, List.getElem?_cons_zero]; try exact rfl)); (case hw => rfl); (case hl => rfl); simp only [Act.put, List.setIfInBounds_toArray, List.set_cons_succ, List.set_cons_zero]))
          refine wpR_new (by ((simp only [List.getElem?_toArray, List.getElem?_cons_succ, List.getElem?_cons_zero]; try exact rfl))) _ rfl rfl rfl (fun V v => PgO.lasts hD _ _) (fun V V' h => rfl) (fun w' hw' hK => ?_) (fun v hv => ?_)
          · have HX := Lib.hid (hX w' hw')
            have HI := Lib.hid (hI w' (hEW.trans hw'))
            clear hK
            unfold opAt; go_simp; refine upAt_enter ?_
            have hdr : Its w' (some ⟨g, nn * 4, none⟩) (rc - nn) ((p.items ++ q.items).drop nn) := by
              have := Its.drop HI.out nn (by omega)
              rwa [Nat.zero_add] at this
            refine (rwith_any (hu0.ext HX.out) hdr (by rw [List.length_drop]; omega)).mono ?_
            rintro e w2 ⟨v', rfl, hO, hE2⟩
            exact ⟨_, rfl, hE2, hO.mono (hEW.trans hw').size⟩
          obtain ⟨iA4, dA4, ic4, dc4, n4, HN4, rfl⟩ : ∃ iA' dA' ic' dc' n', Hid (n' = ((p.items ++ q.items).drop nn).length) ∧ v = .agg #[.int .i64 q.kind, .int .i64 q.level, .slice iA' n' ic', .slice dA' q.data.length dc', .int .i64 q.next] := by
            obtain ⟨_, _, _, hO⟩ := hv
            obtain ⟨iA', ic', dA', dc', ps, e, _⟩ := hO.ex
            exact ⟨_, _, _, _, _, Lib.hid rfl, e⟩
          clear hv
          simp only [Act.put, List.setIfInBounds_toArray, List.set_cons_succ, List.set_cons_zero]
          repeat (first | (apply wpR_one; (case ho => (simp only [List.getElem?_toArray, List.getElem?_cons_succ, List.getElem?_cons_zero]; try exact rfl)); (case hw => rfl); (case hl => rfl); (case hsp => rfl); (case he => rfl); (case hv => (intro w' hw'; (try (have hw2 := Ext.trans hEW hw')); (try (have hw3 := Exc.trans hEW hw')); (try (have hw4 := Exk.trans hEW hw')); (try (have hw5 := Mrk.trans hEW hw')); go_simp; exact rfl)); (case hw0 => (first | exact Below.refl _ _ | exact Exc.of_ext (Below.refl _ _) | exact Exk.of_ext (Below.refl _ _) | exact Mrk.of_ext (Below.refl _ _))); simp only [Act.put, List.setIfInBounds_toArray, List.set_cons_succ, List.set_cons_zero]) | (apply wpR_early; (case ho => (simp only [List.getElem?_toArray, List.getElem?_cons_succ, List.getElem?_cons_zero]; try exact rfl)); (case hw => rfl); (case hl => rfl); (case hsp => rfl); (case he => rfl); (case hv => (intro w' hw'; (try have hw2 := Ext.trans hEW hw'); go_simp; exact rfl)); simp only [Act.put, List.setIfInBounds_toArray, List.set_cons_succ, List.set_cons_zero]) | (apply wpR_pass; (case ho => (simp only [List.getElem?_toArray, List.getElem?_cons_succ, List.getElem?_cons_zero]; try exact rfl)); (case hw => rfl); (case hl => rfl); simp only [Act.put, List.setIfInBounds_toArray, List.set_cons_succ, List.set_cons_zero]))
          refine wpR_late (by ((simp only [List.getElem?_toArray, List.getElem?_cons_succ, List.getElem?_cons_zero]; try exact rfl))) _ rfl rfl (fun V v w' w2 h he => ⟨h.1.ext' he, he.blk h.2⟩) (fun V V' h => by simp only [h 4 (by kernel_rfl)]) (fun w' hw' hK hF => ?_) (fun v hv => ?_)
          · refine opAt_list rfl #[] (fun Q hQ => ?_)
            refine wpList_store_box rfl 26 _ _ rfl (w.heap.size + 1 + 1) _ rfl rfl 26 _ hF.1 (by kernel_rfl) rfl (by simp [Value.oneCell']) (fun w2 hb hg => ?_)
            exact hQ _ _ ⟨Exc.of_only hg (fun _ _ => .inl rfl), ⟨_, rfl, hb⟩, blk_other hF.2 hg (by omega)⟩
          clear hv
          simp only [Act.put, List.setIfInBounds_toArray, List.set_cons_succ, List.set_cons_zero]
          refine wpR_late (by ((simp only [List.getElem?_toArray, List.getElem?_cons_succ, List.getElem?_cons_zero]; try exact rfl))) _ rfl rfl (fun V v w' w2 h he => ⟨h.1.ext' he, h.2.ext' he⟩) (fun V V' h => by simp only [h 4 (by kernel_rfl), h 9 (by kernel_rfl)]) (fun w' hw' hK hF => ?_) (fun v hv => ?_)
          · obtain ⟨hF1, hF2⟩ := hF
            obtain ⟨cs1, e1', hF1⟩ := hF1
            refine opAt_list rfl #[] (fun Q hQ => ?_)
            refine wpList_store_box rfl 26 _ _ rfl (w.heap.size + 1 + 1 + 1) _ rfl rfl 26 _ hF2 (by kernel_rfl) rfl (by simp [Value.oneCell']) (fun w2 hb hg => ?_)
            exact hQ _ _ ⟨Exc.of_only hg (fun _ _ => .inr rfl), ⟨_, e1', blk_other hF1 hg (by omega)⟩, ⟨_, rfl, hb⟩⟩
          clear hv
          simp only [Act.put, List.setIfInBounds_toArray, List.set_cons_succ, List.set_cons_zero]
          repeat (first | (apply wpR_one; (case ho => (simp only [List.getElem?_toArray, List.getElem?_cons_succ, List.getElem?_cons_zero]; try exact rfl)); (case hw => rfl); (case hl => rfl); (case hsp => rfl); (case he => rfl); (case hv => (intro w' hw'; (try (have hw2 := Ext.trans hEW hw')); (try (have hw3 := Exc.trans hEW hw')); (try (have hw4 := Exk.trans hEW hw')); (try (have hw5 := Mrk.trans hEW hw')); go_simp; exact rfl)); (case hw0 => (first | exact Below.refl _ _ | exact Exc.of_ext (Below.refl _ _) | exact Exk.of_ext (Below.refl _ _) | exact Mrk.of_ext (Below.refl _ _))); simp only [Act.put, List.setIfInBounds_toArray, List.set_cons_succ, List.set_cons_zero]) | (apply wpR_early; (case ho => (simp only [List.getElem?_toArray, List.getElem?_cons_succ, List.getElem?_cons_zero]; try exact rfl)); (case hw => rfl); (case hl => rfl); (case hsp => rfl); (case he => rfl); (case hv => (intro w' hw'; (try have hw2 := Ext.trans hEW hw'); go_simp; exact rfl)); simp only [Act.put, List.setIfInBounds_toArray, List.set_cons_succ, List.set_cons_zero]) | (apply wpR_pass; (case ho => (simp only [List.getElem?_toArray, List.getElem?_cons_succ, List.getElem?_cons_zero]; try exact rfl)); (case hw => rfl); (case hl => rfl); simp only [Act.put, List.setIfInBounds_toArray, List.set_cons_succ, List.set_cons_zero]))
          apply wpR_nil
          apply hN
          intro w9 hE9 hK hF
          obtain ⟨r1, r2⟩ := hF
          have o1 : PgO w5.heap.size w9 _ { p with items := (p.items ++ q.items).take nn } := (hK 4).2
          have o2 : PgO w5.heap.size w9 _ { q with items := (p.items ++ q.items).drop nn } := (hK 9).2
          obtain ⟨cs1, e1', r1⟩ := r1
          have e1'' : Value.agg #[.int .i64 p.kind, .int .i64 p.level, .slice iA3 n3 ic3, .slice dA3 p.data.length dc3, .int .i64 p.next] = _ := e1'
          injection e1'' with e1''
          subst e1''
          obtain ⟨cs2, e2', r2⟩ := r2
          have e2'' : Value.agg #[.int .i64 q.kind, .int .i64 q.level, .slice iA4 n4 ic4, .slice dA4 q.data.length dc4, .int .i64 q.next] = _ := e2'
          injection e2'' with e2''
          subst e2''
          have hx9 := hEW.trans hE9
          have hE' : Ext w w9 := hX w9 hE9
          have R1 := Lib.hid o1
          have R2 := Lib.hid o2
          have R3 := Lib.hid (ownsRow_exc OS.out hx9 (fun k cs h1 h2 => by omega))
          clear hK hN e0 e1 e2 e3 e4 f0 f1 f2 f3 f4 hEW hE9 hx9 hW hF0 hX hI o1 o2
          go_wp2
          refine bodyPost_ret (results_rrtt rfl _ _ _ _ _ _ _ _ _ _ _ _ rfl r1 Try.underlying26 rfl (by kernel_rfl) rfl r2 Try.underlying26 rfl (by kernel_rfl)) rfl ⟨_, _, _, _, by rw [HQ0.out, HQ.out, HN6.out]; rfl, by rw [HQ0.out, HQ.out]; exact R1.out.mono (B' := w.heap.size) (by omega), ?_, ?_, hE'⟩
          · rw [HQ0.out, HQ.out]; exact R2.out.mono (B' := w.heap.size) (by omega)
          · rw [HQ0.out, HQ.out]; exact ownsRow_mono (B' := w.heap.size) R3.out (by omega)
end Go.Proofs.Ytjjbckdiojleeaa
