/- The contract of coppicelaw12.same, where the items are the same. No condition but that what comes in lies in memory. -/
import Derived.Test.YtjjbckdiojleeaaAll
namespace Go.Proofs.Ytjjbckdiojleeaa
set_option linter.unusedVariables false
open Go.RowKit Go.Proofs
set_option maxRecDepth 100000 in
set_option maxHeartbeats 4000000 in
theorem same_any {v1 v2 v3 v4 : Value} {p q a b : Pg} {A B : Option Addr} {c n d m : Nat} {sep s : List UInt8} {w : World} (h1 : PgV w v1 p) (h2 : PgV w v2 q) (hs : Sl w A c sep) (hn : n = sep.length) (h3 : PgV w v3 a) (h4 : PgV w v4 b) (hs2 : Sl w B d s) (hm : m = s.length)
    (ht : p.items.length + q.items.length ≤ 2199023255552) (heq : allB a b s = allB p q sep) :
    Calls Try.prog 36 #[v1, v2, .slice A n c, v3, v4, .slice B m d] w fun e w' => e = .returned (.bool true) ∧ Ext w w' := by
  subst hn hm
  have ht2 : a.items.length + b.items.length ≤ 2199023255552 := by
    have := congrArg List.length heq
    rw [allB_length, allB_length] at this
    omega
  obtain ⟨iA1, ic1, dA1, dc1, rfl, _, _⟩ := h1.ex
  obtain ⟨iA2, ic2, dA2, dc2, rfl, _, _⟩ := h2.ex
  obtain ⟨iA3, ic3, dA3, dc3, rfl, _, _⟩ := h3.ex
  obtain ⟨iA4, ic4, dA4, dc4, rfl, _, _⟩ := h4.ex
  have hE0 := ((((ext_alloc w (.cells #[.int .i64 p.kind, .int .i64 p.level, .slice iA1 p.items.length ic1, .slice dA1 p.data.length dc1, .int .i64 p.next] 26)).trans (ext_alloc _ (.cells #[.int .i64 q.kind, .int .i64 q.level, .slice iA2 q.items.length ic2, .slice dA2 q.data.length dc2, .int .i64 q.next] 26))).trans (ext_alloc _ (.cells #[.int .i64 a.kind, .int .i64 a.level, .slice iA3 a.items.length ic3, .slice dA3 a.data.length dc3, .int .i64 a.next] 26))).trans (ext_alloc _ (.cells #[.int .i64 b.kind, .int .i64 b.level, .slice iA4 b.items.length ic4, .slice dA4 b.data.length dc4, .int .i64 b.next] 26)))
  have HA := Lib.hid ((ext_alloc _ (.cells #[.int .i64 b.kind, .int .i64 b.level, .slice iA4 b.items.length ic4, .slice dA4 b.data.length dc4, .int .i64 b.next] 26)).blk (heap_alloc_at ((w.alloc (.cells #[.int .i64 p.kind, .int .i64 p.level, .slice iA1 p.items.length ic1, .slice dA1 p.data.length dc1, .int .i64 p.next] 26)).alloc (.cells #[.int .i64 q.kind, .int .i64 q.level, .slice iA2 q.items.length ic2, .slice dA2 q.data.length dc2, .int .i64 q.next] 26)) (.cells #[.int .i64 a.kind, .int .i64 a.level, .slice iA3 a.items.length ic3, .slice dA3 a.data.length dc3, .int .i64 a.next] 26) (w.heap.size + 1 + 1) (by simp)))
  have HB := Lib.hid (heap_alloc_at (((w.alloc (.cells #[.int .i64 p.kind, .int .i64 p.level, .slice iA1 p.items.length ic1, .slice dA1 p.data.length dc1, .int .i64 p.next] 26)).alloc (.cells #[.int .i64 q.kind, .int .i64 q.level, .slice iA2 q.items.length ic2, .slice dA2 q.data.length dc2, .int .i64 q.next] 26)).alloc (.cells #[.int .i64 a.kind, .int .i64 a.level, .slice iA3 a.items.length ic3, .slice dA3 a.data.length dc3, .int .i64 a.next] 26)) (.cells #[.int .i64 b.kind, .int .i64 b.level, .slice iA4 b.items.length ic4, .slice dA4 b.data.length dc4, .int .i64 b.next] 26) (w.heap.size + 1 + 1 + 1) (by simp))
  have HEQ := Lib.hid heq
  clear heq
  go_enter Try.func36, Try.ntmps36
  go_wp2_with fail
  refine (all_any (h1.ext hE0) (h2.ext hE0) (hs.ext hE0) rfl ht).mono ?_
  rintro e w1 ⟨A1, c1, n1, rfl, hn1, hi1, hE1⟩
  have HN1 := Lib.hid hn1
  replace HA := Lib.hid (hE1.blk HA.out)
  replace HB := Lib.hid (hE1.blk HB.out)
  have hE := hE0.trans hE1
  clear hE0 hE1 hn1
  have a0 := cell_of_row w1 (w.heap.size + 1 + 1) 0 _ _ _ HA.out
  have a1 := cell_of_row w1 (w.heap.size + 1 + 1) 1 _ _ _ HA.out
  have a2 := cell_of_row w1 (w.heap.size + 1 + 1) 2 _ _ _ HA.out
  have a3 := cell_of_row w1 (w.heap.size + 1 + 1) 3 _ _ _ HA.out
  have a4 := cell_of_row w1 (w.heap.size + 1 + 1) 4 _ _ _ HA.out
  simp only [List.getElem?_toArray, List.getElem?_cons_zero, List.getElem?_cons_succ] at a0 a1 a2 a3 a4
  have b0 := cell_of_row w1 (w.heap.size + 1 + 1 + 1) 0 _ _ _ HB.out
  have b1 := cell_of_row w1 (w.heap.size + 1 + 1 + 1) 1 _ _ _ HB.out
  have b2 := cell_of_row w1 (w.heap.size + 1 + 1 + 1) 2 _ _ _ HB.out
  have b3 := cell_of_row w1 (w.heap.size + 1 + 1 + 1) 3 _ _ _ HB.out
  have b4 := cell_of_row w1 (w.heap.size + 1 + 1 + 1) 4 _ _ _ HB.out
  simp only [List.getElem?_toArray, List.getElem?_cons_zero, List.getElem?_cons_succ] at b0 b1 b2 b3 b4
  go_wp2_with fail
  clear a0 a1 a2 a3 a4 b0 b1 b2 b3 b4
  refine (all_any (h3.ext hE) (h4.ext hE) (hs2.ext hE) rfl ht2).mono ?_
  rintro e w2 ⟨A2, c2, n2, rfl, hn2, hi2, hE2⟩
  rw [HEQ.out] at hi2 hn2
  obtain rfl : n2 = n1 := by rw [hn2, HN1.out]
  replace hi1 := hi1.ext hE2
  replace hE := hE.trans hE2
  obtain ⟨L, hL⟩ : ∃ L, allB p q sep = L := ⟨_, rfl⟩
  rw [hL] at hi1 hi2 HN1
  have hil := hi1.len
  have hic1 := hi1.le
  have hic2 := hi2.le
  have hnl : n2 ≤ 2199023255552 := by rw [HN1.out]; exact hil
  clear hE2 hn2 hL HA HB
  have c0 : ((n2 : Int) != (n2 : Int)) = false := by simp
  go_wp2
  go_loopw [15] (fun i wr => ∃ k : Nat, k ≤ n2 ∧ i = .int .i64 k ∧ Ext w2 wr) (fun i _ => n2 - (intOf i).toNat)
  case atStart => exact ⟨0, Nat.zero_le _, rfl, Below.refl _ _⟩
  case round =>
    obtain ⟨k, hkl, rfl, hEr⟩ := hrel
    by_cases hlt : k < n2
    · obtain ⟨x, hx⟩ : ∃ x, L[k]? = some x := ⟨_, List.getElem?_eq_getElem (by rw [← HN1.out]; exact hlt)⟩
      obtain ⟨b1, o1, rfl, hcx1⟩ := hi1.rd (by rw [← HN1.out]; omega)
      obtain ⟨b2, o2, rfl, hcx2⟩ := hi2.rd (by rw [← HN1.out]; omega)
      have X1 := Lib.hid (hcx1 k x hx)
      have X2 := Lib.hid (hcx2 k x hx)
      obtain ⟨kA, kc, vA, vc, x0, x1, x2, x3, xk, xv⟩ := X1.out
      obtain ⟨kB, kd, vB, vd, y0, y1, y2, y3, yk, yv⟩ := X2.out
      have j1 : (k : Int) < (n2 : Int) := by omega
      have j2 : (0 : Int) ≤ (k : Int) := by omega
      clear hcx1 hcx2 hx
      go_wp2_with fail
      have e0 : ∀ w', Ext wr w' → w'.cell? ⟨b1, o1 + k * 4, none⟩ = some (.slice kA x.key.length kc) := fun w' h => (hEr.trans h).cell x0
      have e1 : ∀ w', Ext wr w' → w'.cell? ⟨b1, o1 + k * 4 + 1, none⟩ = some (.slice vA x.val.length vc) := fun w' h => (hEr.trans h).cell x1
      have e2 : ∀ w', Ext wr w' → w'.cell? ⟨b1, o1 + k * 4 + 2, none⟩ = some (.int .i64 x.ch) := fun w' h => (hEr.trans h).cell x2
      have e3 : ∀ w', Ext wr w' → w'.cell? ⟨b1, o1 + k * 4 + 3, none⟩ = some (.int .i64 x.sz) := fun w' h => (hEr.trans h).cell x3
      have f0 : ∀ w', Ext wr w' → w'.cell? ⟨b2, o2 + k * 4, none⟩ = some (.slice kB x.key.length kd) := fun w' h => (hEr.trans h).cell y0
      have f1 : ∀ w', Ext wr w' → w'.cell? ⟨b2, o2 + k * 4 + 1, none⟩ = some (.slice vB x.val.length vd) := fun w' h => (hEr.trans h).cell y1
      have f2 : ∀ w', Ext wr w' → w'.cell? ⟨b2, o2 + k * 4 + 2, none⟩ = some (.int .i64 x.ch) := fun w' h => (hEr.trans h).cell y2
      have f3 : ∀ w', Ext wr w' → w'.cell? ⟨b2, o2 + k * 4 + 3, none⟩ = some (.int .i64 x.sz) := fun w' h => (hEr.trans h).cell y3
      clear hlt
      refine wp_region_rg Ext rel_ext (fun _ => True) [0, 1, 2, 3, 4, 5, 6, 7, 8, 9] (fun i => match i with
        | 8 => some fun _ => eqV (.bool true)
        | _ => none) (fun _ => none) (fun _ => false) (by kernel_rfl) (by kernel_rfl) (fun _ _ _ _ => trivial) trivial (fun W N hW _ hN => ?_)
      have hEW : Ext wr W := hW
      repeat (first | (apply wpR_one; (case ho => (simp only [List.getElem?_toArray, List.getElem?_cons_succ, List.getElem?_cons_zero]; try exact rfl)); (case hw => rfl); (case hl => rfl); (case hsp => rfl); (case he => rfl); (case hv => (intro w' hw'; (try (have hw2 := Ext.trans hEW hw')); (try (have hw3 := Exc.trans hEW hw')); (try (have hw4 := Exk.trans hEW hw')); (try (have hw5 := Mrk.trans hEW hw')); go_simp; exact rfl)); (case hw0 => (first | exact Below.refl _ _ | exact Exc.of_ext (Below.refl _ _) | exact Exk.of_ext (Below.refl _ _) | exact Mrk.of_ext (Below.refl _ _))); simp only [Act.put, List.setIfInBounds_toArray, List.set_cons_succ, List.set_cons_zero]) | (apply wpR_early; (case ho => (simp only [List.getElem?_toArray, List.getElem?_cons_succ, List.getElem?_cons_zero]; try exact rfl)); (case hw => rfl); (case hl => rfl); (case hsp => rfl); (case he => rfl); (case hv => (intro w' hw'; (try have hw2 := Ext.trans hEW hw'); go_simp; exact rfl)); simp only [Act.put, List.setIfInBounds_toArray, List.set_cons_succ, List.set_cons_zero]) | (apply wpR_pass; (case ho => (simp only [List.getElem?_toArray, List.getElem?_cons_succ, List.getElem?_cons_zero]; try exact rfl)); (case hw => rfl); (case hl => rfl); simp only [Act.put, List.setIfInBounds_toArray, List.set_cons_succ, List.set_cons_zero]))
      refine wpR_new (by ((simp only [List.getElem?_toArray, List.getElem?_cons_succ, List.getElem?_cons_zero]; try exact rfl))) _ rfl rfl rfl (fun V v => eqV.lasts _ v) (fun V V' h => rfl) (fun w' hw' hK => ?_) (fun u hu => ?_)
      · clear hK
        have hX := hEr.trans (hEW.trans hw')
        unfold opAt; go_simp; refine upAt_enter ?_
        refine (eqItem_any (x := x) (y := x) (xk.ext hX) (xv.ext hX) (yk.ext hX) (yv.ext hX) rfl rfl rfl rfl rfl rfl rfl rfl).mono ?_
        rintro e w9 ⟨rfl, hE9⟩
        rw [show eqIt x x = true by simp [eqIt]]
        exact ⟨_, rfl, hE9, rfl⟩
      obtain rfl : u = .bool true := hu.choose_spec.2.2
      clear hu
      simp only [Act.put, List.setIfInBounds_toArray, List.set_cons_succ, List.set_cons_zero]
      repeat (first | (apply wpR_one; (case ho => (simp only [List.getElem?_toArray, List.getElem?_cons_succ, List.getElem?_cons_zero]; try exact rfl)); (case hw => rfl); (case hl => rfl); (case hsp => rfl); (case he => rfl); (case hv => (intro w' hw'; (try (have hw2 := Ext.trans hEW hw')); (try (have hw3 := Exc.trans hEW hw')); (try (have hw4 := Exk.trans hEW hw')); (try (have hw5 := Mrk.trans hEW hw')); go_simp; exact rfl)); (case hw0 => (first | exact Below.refl _ _ | exact Exc.of_ext (Below.refl _ _) | exact Exk.of_ext (Below.refl _ _) | exact Mrk.of_ext (Below.refl _ _))); simp only [Act.put, List.setIfInBounds_toArray, List.set_cons_succ, List.set_cons_zero]) | (apply wpR_early; (case ho => (simp only [List.getElem?_toArray, List.getElem?_cons_succ, List.getElem?_cons_zero]; try exact rfl)); (case hw => rfl); (case hl => rfl); (case hsp => rfl); (case he => rfl); (case hv => (intro w' hw'; (try have hw2 := Ext.trans hEW hw'); go_simp; exact rfl)); simp only [Act.put, List.setIfInBounds_toArray, List.set_cons_succ, List.set_cons_zero]) | (apply wpR_pass; (case ho => (simp only [List.getElem?_toArray, List.getElem?_cons_succ, List.getElem?_cons_zero]; try exact rfl)); (case hw => rfl); (case hl => rfl); simp only [Act.put, List.setIfInBounds_toArray, List.set_cons_succ, List.set_cons_zero]))
      apply wpR_nil
      apply hN
      intro w5 hE' hK hF
      have hE5 := hEr.trans (hEW.trans hE')
      clear hK hF hN hEW hE' hW e0 e1 e2 e3 f0 f1 f2 f3 x0 x1 x2 x3 y0 y1 y2 y3
      go_wp2
      go_roundw
      case rel => exact ⟨k + 1, by omega, by rw [Int.natCast_succ], hE5⟩
      case measure => simp [intOf]; omega
    · obtain rfl : k = n2 := by omega
      have hEE := hE.trans hEr
      clear hE hEr hlt hkl
      go_wp2
      go_ret
      exact ⟨rfl, hEE⟩
end Go.Proofs.Ytjjbckdiojleeaa
