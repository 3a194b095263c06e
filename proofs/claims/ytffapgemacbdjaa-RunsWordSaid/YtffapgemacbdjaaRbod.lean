/- Layer 5, at uint16: the law's book. No condition but the sizes. -/
import Derived.Test.YtffapgemacbdjaaRbkd
namespace Go.Proofs.Ytffapgemacbdjaa
open Go.RowKit Go.Proofs Go.Shelf
set_option linter.unusedVariables false
attribute [local go_sem] Oper.semAt_some
set_option maxRecDepth 100000 in
set_option maxHeartbeats 8000000 in
theorem book_anyd {B xb n : Nat} {s : Wk} {w : World} (h : WorkAtd B xb n w s) (hok : s.Ok) (hn : n ≤ 1000) :
    Calls Try.prog 50 #[.pointer (some ⟨xb, 0, none⟩)] w fun e w' => e = .returned (.bool true) ∧ Exc (fun q _ => B ≤ q) w w' := by
  obtain ⟨i0, hi, hz0, hz1, hz2⟩ := info_parts infoRd
  obtain ⟨i1, hi1, hy0, hy1, hy2⟩ := info_parts infoSRd
  have hBw : B ≤ w.heap.size := by have := (Array.getElem?_eq_some_iff.1 h.hd).1; have := h.hB; omega
  obtain ⟨m, hm⟩ : ∃ m, s.ts.length = m := ⟨_, rfl⟩
  obtain ⟨At, hAt⟩ : ∃ A, s.At = A := ⟨_, rfl⟩
  obtain ⟨ct, hct⟩ : ∃ c, s.ct = c := ⟨_, rfl⟩
  obtain ⟨Ax, hAx⟩ : ∃ A, s.Ax = A := ⟨_, rfl⟩
  obtain ⟨cx, hcx⟩ : ∃ c, s.cx = c := ⟨_, rfl⟩
  obtain ⟨hs, hhs⟩ : ∃ hs, hdsOf s.ts = hs := ⟨_, rfl⟩
  have hmx : s.xs.length = m := by
    rw [← hm]
    have := congrArg List.length hok.tl
    simpa using this.symm
  have hmn : m ≤ 1000 := by have := h.pt.tds.cnt; omega
  have hsl : hs.length = m := by rw [← hhs, ← hm]; simp [hdsOf]
  have HA : ApartH hs := by rw [← hhs]; exact h.pt.tds.apart
  have HTl : ∀ (i : Nat) (hh : Hd) (q : Nat), hs[i]? = some hh → hh.v.ownBlock = some q → ∃ t ∈ s.ts, t.v.ownBlock = some q := fun i hh q h1 h2 => hds_in (by rw [hhs]; exact h1) h2
  have HK : ∀ hh ∈ hs, hh.k ≤ 1000 := fun hh hm2 => by
    rw [← hhs] at hm2
    obtain ⟨t, ht, rfl⟩ := List.mem_map.1 hm2
    have := h.pt.tds.len t ht
    show t.L.length ≤ 1000
    omega
  have HM0 : Marked 220 2 B mkd hs 0 0 w := by rw [← hhs]; exact h.pt.tds.start
  have HR := fun W (hx : Exc (TlD s.ts) w W) => h.rest hx
  have HT : ∀ W, Exc (TlD s.ts) w W → W.ownsRow B 203 1 (.slice At m ct) m (hs.map Hd.v) := fun W hx => by
    have a := (HR W hx).row
    rw [hAt, hct, hm, hhs] at a
    exact a
  have HX : w.ownsRow B 22 1 (.slice Ax m cx) m (s.xs.map Tld.v) := by
    have a := h.pt.wts.row
    rw [hAx, hcx, hmx] at a
    exact a
  have Q7 : ∀ W, Exc (TlD s.ts) w W → W.cell? ⟨xb, 7, none⟩ = some (.slice At m ct) := fun W hx => by
    rw [cell_of_row _ _ 7 _ _ _ (HR W hx).hd]
    simp only [Wk.cells, List.getElem?_toArray, List.getElem?_cons_zero, List.getElem?_cons_succ]
    rw [hAt, hct, hm]
  have Q8 : ∀ W, Ext w W → W.cell? ⟨xb, 8, none⟩ = some (.slice Ax m cx) := fun W hx => by
    rw [cell_of_row _ _ 8 _ _ _ (hx.blk h.hd)]
    simp only [Wk.cells, List.getElem?_toArray, List.getElem?_cons_zero, List.getElem?_cons_succ]
    rw [hAx, hcx, hmx]
  have HM := Lib.hid hm
  have HMX := Lib.hid hmx
  have HSL := Lib.hid hsl
  have HHS := Lib.hid hhs
  clear hm hAt hct hAx hcx hhs hmx hsl
  go_enter Try.func50, Try.ntmps50
  go_wp2
  go_loopw [3] (fun ii wr => ∃ i : Nat, i ≤ m ∧ ii = .int .i64 i ∧ Ext w wr) (fun ii _ => m - (intOf ii).toNat)
  case atStart => exact ⟨0, Nat.zero_le _, rfl, Below.refl _ _⟩
  case round =>
    obtain ⟨i, hi', rfl, hE⟩ := hrel
    have q7 := Q7 wr (Exc.of_ext hE)
    by_cases hlt : i < m
    · obtain ⟨t, ht⟩ : ∃ t, s.ts[i]? = some t := ⟨_, List.getElem?_eq_getElem (by rw [HM.out]; exact hlt)⟩
      obtain ⟨x, hx⟩ : ∃ x, s.xs[i]? = some x := ⟨_, List.getElem?_eq_getElem (by rw [HMX.out]; exact hlt)⟩
      have hLL : t.L = x.L := by
        have := congrArg (fun l => l[i]?) hok.tl
        simpa [List.getElem?_map, ht, hx] using this
      have htm := List.mem_of_getElem? ht
      have hxm := List.mem_of_getElem? hx
      have htk := h.pt.tds.tk t htm
      have hbd := h.pt.tds.bd t htm
      have htl := h.pt.tds.len t htm
      have hxk := h.pt.wts.tk x hxm
      have hth : hs[i]? = some ⟨t.A, t.L.length, t.c⟩ := by
        rw [← HHS.out]
        unfold hdsOf
        rw [List.getElem?_map, ht]
        rfl
      obtain ⟨g, hA, hic, hg⟩ := row_at (v := .slice t.A t.L.length t.c) (HT wr (Exc.of_ext hE)) (by rw [List.getElem?_map, hth]; rfl)
      obtain ⟨gx, hAx, hix, hgx⟩ := row_at (v := .slice x.A x.L.length x.c) (own_ext HX hE) (by rw [List.getElem?_map, hx]; rfl)
      subst hA hAx
      obtain ⟨tA, tc, tL⟩ := t
      obtain ⟨xA, xc, xL⟩ := x
      simp only at hLL htk hbd htl hxk hg hgx
      subst hLL
      have z7 : ∀ W, Ext wr W → W.cell? ⟨xb, 7, none⟩ = some (.slice (some ⟨g, 0, none⟩) m ct) := fun W hh => Q7 W (Exc.of_ext (hE.trans hh))
      have z8 : ∀ W, Ext wr W → W.cell? ⟨xb, 8, none⟩ = some (.slice (some ⟨gx, 0, none⟩) m cx) := fun W hh => Q8 W (hE.trans hh)
      clear ht hx htm hxm hth
      go_wp2
      refine wp_region_rg Ext rel_ext (fun _ => True) [0, 1, 2, 3, 4, 5, 6, 7, 8, 9, 10, 11, 12, 13, 14, 15] (fun i => match i with | 14 => some fun _ z _ => z = .bool true | _ => none) (fun _ => none) (fun _ => false) (by kernel_rfl) (by kernel_rfl) (fun _ _ _ _ => trivial) trivial (fun W N hW _ hN => ?_)
      have hEW := hW
      repeat (first | (apply wpR_one; (case ho => (simp only [List.getElem?_toArray, List.getElem?_cons_succ, List.getElem?_cons_zero]; try exact rfl)); (case hw => rfl); (case hl => rfl); (case hsp => rfl); (case he => rfl); (case hv => (intro w' hw'; (try (have hw2 := Ext.trans hEW hw')); (try (have hw3 := Exc.trans hEW hw')); (try (have hw4 := Exk.trans hEW hw')); (try (have hw5 := Mrk.trans hEW hw')); go_simp; exact rfl)); (case hw0 => (first | exact Below.refl _ _ | exact Exc.of_ext (Below.refl _ _) | exact Exk.of_ext (Below.refl _ _) | exact Mrk.of_ext (Below.refl _ _))); simp only [Act.put, List.setIfInBounds_toArray, List.set_cons_succ, List.set_cons_zero]) | (apply wpR_early; (case ho => (simp only [List.getElem?_toArray, List.getElem?_cons_succ, List.getElem?_cons_zero]; try exact rfl)); (case hw => rfl); (case hl => rfl); (case hsp => rfl); (case he => rfl); (case hv => (intro w' hw'; (try have hw2 := Ext.trans hEW hw'); go_simp; exact rfl)); simp only [Act.put, List.setIfInBounds_toArray, List.set_cons_succ, List.set_cons_zero]) | (apply wpR_pass; (case ho => (simp only [List.getElem?_toArray, List.getElem?_cons_succ, List.getElem?_cons_zero]; try exact rfl)); (case hw => rfl); (case hl => rfl); simp only [Act.put, List.setIfInBounds_toArray, List.set_cons_succ, List.set_cons_zero]))
      refine wpR_new (by ((simp only [List.getElem?_toArray, List.getElem?_cons_succ, List.getElem?_cons_zero]; try exact rfl))) _ rfl rfl rfl (fun V v => Lasts.pure) (fun V V' h => rfl) (fun w' hw' hK => ?_) (fun z hz => ?_)
      · have hEE := hE.trans (hEW.trans hw')
        clear hK
        unfold opAt; go_simp; refine upAt_enter ?_
        refine (eqr_anyd (own_ext htk hEE) (own_ext hxk hEE) hbd (by omega) (by omega)).mono ?_
        rintro e w5 ⟨rfl, hE5⟩
        exact ⟨_, rfl, hE5, by rw [decide_eq_true rfl]⟩
      obtain ⟨_, _, _, rfl⟩ := hz
      simp only [Act.put, List.setIfInBounds_toArray, List.set_cons_succ, List.set_cons_zero]
      repeat (first | (apply wpR_one; (case ho => (simp only [List.getElem?_toArray, List.getElem?_cons_succ, List.getElem?_cons_zero]; try exact rfl)); (case hw => rfl); (case hl => rfl); (case hsp => rfl); (case he => rfl); (case hv => (intro w' hw'; (try (have hw2 := Ext.trans hEW hw')); (try (have hw3 := Exc.trans hEW hw')); (try (have hw4 := Exk.trans hEW hw')); (try (have hw5 := Mrk.trans hEW hw')); go_simp; exact rfl)); (case hw0 => (first | exact Below.refl _ _ | exact Exc.of_ext (Below.refl _ _) | exact Exk.of_ext (Below.refl _ _) | exact Mrk.of_ext (Below.refl _ _))); simp only [Act.put, List.setIfInBounds_toArray, List.set_cons_succ, List.set_cons_zero]) | (apply wpR_early; (case ho => (simp only [List.getElem?_toArray, List.getElem?_cons_succ, List.getElem?_cons_zero]; try exact rfl)); (case hw => rfl); (case hl => rfl); (case hsp => rfl); (case he => rfl); (case hv => (intro w' hw'; (try have hw2 := Ext.trans hEW hw'); go_simp; exact rfl)); simp only [Act.put, List.setIfInBounds_toArray, List.set_cons_succ, List.set_cons_zero]) | (apply wpR_pass; (case ho => (simp only [List.getElem?_toArray, List.getElem?_cons_succ, List.getElem?_cons_zero]; try exact rfl)); (case hw => rfl); (case hl => rfl); simp only [Act.put, List.setIfInBounds_toArray, List.set_cons_succ, List.set_cons_zero]))
      apply wpR_nil
      apply hN
      intro w5 hE5 hK _
      have hEE := hE.trans (hEW.trans hE5)
      clear hK hN z7 z8 hg hgx hW hEW hE5 q7 hE
      go_wp2
      go_roundw
      case rel => exact ⟨i + 1, by omega, by go_num, hEE⟩
      case measure => simp [intOf]; omega
    · have hM0 := HM0.keep (KeepR.of_ext hE)
      have hE0 : Exc (TlD s.ts) w wr := Exc.of_ext hE
      clear HM0
      go_wp2
      clear q7
      go_loopw [4] (fun ii wr => ∃ i : Nat, i ≤ m ∧ ii = .int .i64 i ∧ Marked 220 2 B mkd hs i 0 wr ∧ Exc (TlD s.ts) w wr) (fun ii _ => m - (intOf ii).toNat)
      case atStart => exact ⟨0, Nat.zero_le _, rfl, hM0, hE0⟩
      case round =>
        clear hM0 hE0 hE hlt hi'
        obtain ⟨i, hi', rfl, hM, hE⟩ := hrel
        have q7 := Q7 wr hE
        by_cases hlt : i < m
        · obtain ⟨hh, hhh⟩ : ∃ h, hs[i]? = some h := ⟨_, List.getElem?_eq_getElem (by rw [HSL.out]; exact hlt)⟩
          have hk0 := HK hh (List.mem_of_getElem? hhh)
          obtain ⟨g, hA, hic, hg⟩ := row_at (v := hh.v) (HT wr hE) (by rw [List.getElem?_map, hhh]; rfl)
          subst hA
          obtain ⟨A, N, c⟩ := hh
          simp only at hk0
          have HH := Lib.hid hhh
          clear hg hhh
          go_wp2
          clear q7
          go_loopw [5] (fun kk wr => ∃ k : Nat, k ≤ N ∧ kk = .int .i64 k ∧ Marked 220 2 B mkd hs i k wr ∧ Exc (TlD s.ts) w wr) (fun kk _ => N - (intOf kk).toNat)
          case atStart => exact ⟨0, Nat.zero_le _, rfl, hM, hE⟩
          case round =>
            clear hM hE
            obtain ⟨k, hk', rfl, hM, hE⟩ := hrel
            have q7 := Q7 wr hE
            have qg : wr.cell? ⟨g, i, none⟩ = some (.slice A N c) := by
              rw [World.ownsRow.cellAt (HT wr hE) i (by omega)]
              simp [HH.out]
            by_cases hltk : k < N
            · obtain ⟨gt, ys, hgt, hBg, ho, hp⟩ := hM.row HH.out hltk
              simp only at hgt ho
              subst hgt
              go_wp2_with (refine wpList_store_own rfl 220 (.tmp 76) (.tmp 75) rfl gt N c (mkd i k) rfl rfl ho hltk rfl (by kernel_rfl) (one_mkd i k) ?_; intro w3 ho3 hg3)
              have hM3 := hM.stored len_mkd HA HH.out hltk rfl hp ho3 hg3
              have hE3 := exc_tld hE hg3 (fun q hq => .inl fun _ => HTl i _ q HH.out (by rw [← hq]; rfl))
              go_roundw
              case rel => exact ⟨k + 1, by omega, by go_num, hM3, hE3⟩
              case measure => simp [intOf]; omega
            · have hkN : k = N := by omega
              have hM3 := hM.next HH.out hkN
              clear hkN
              go_wp2
              go_roundw
              case rel => exact ⟨i + 1, by omega, by go_num, hM3, hE⟩
              case measure => simp [intOf]; omega
        · have hG0 : Grown 220 2 B mkd 20 hs [] wr := Grown.start (hM.done (by rw [HSL.out]; omega))
          clear hM
          go_wp2
          clear q7
          go_loopw [6, 7] (fun gv ii wr => ∃ (i : Nat) (gs : List Hd) (Ag : Option Addr) (cg : Nat), i ≤ m ∧ ii = .int .i64 i ∧ gv = .slice Ag i cg ∧ gs.length = i ∧ Grown 220 2 B mkd 20 hs gs wr ∧ wr.ownsRow w.heap.size 203 1 (.slice Ag i cg) i (gs.map Hd.v) ∧ Exc (TlD s.ts) w wr) (fun _ ii _ => m - (intOf ii).toNat)
          case atStart => exact ⟨0, [], none, 0, Nat.zero_le _, rfl, rfl, rfl, hG0, World.ownsRow_nil _ _ _ _, hE⟩
          case round =>
            clear hG0 hE hlt hi'
            obtain ⟨i, gs, Ag, cg, hi', rfl, rfl, hgl', hG, hog, hE⟩ := hrel
            have HGL := Lib.hid hgl'
            clear hgl'
            have q7 := Q7 wr hE
            by_cases hlt : i < m
            · obtain ⟨hh, hhh⟩ : ∃ h, hs[i]? = some h := ⟨_, List.getElem?_eq_getElem (by rw [HSL.out]; exact hlt)⟩
              have hk0 := HK hh (List.mem_of_getElem? hhh)
              obtain ⟨g, hA, hic, hg⟩ := row_at (v := hh.v) (HT wr hE) (by rw [List.getElem?_map, hhh]; rfl)
              subst hA
              have hS := Growing.start HA hG HGL.out hhh
              obtain ⟨A, N, c⟩ := hh
              simp only at hk0
              have HH := Lib.hid hhh
              have qg : wr.cell? ⟨g, i, none⟩ = some (.slice A N c) := hg wr (Below.refl _ _)
              clear hg hhh hG
              go_wp2
              clear q7 qg
              go_loopw [8, 9] (fun gv kk wr => ∃ (t : Nat) (A' : Option Addr) (c' : Nat), t ≤ 20 ∧ kk = .int .i64 t ∧ gv = .slice A' (N + t) c' ∧ Growing 220 2 B mkd 20 hs gs i t (.slice A' (N + t) c') wr ∧ (∀ q, (Value.slice A' (N + t) c').ownBlock = some q → (Value.slice A N c).ownBlock = some q ∨ w.heap.size ≤ q) ∧ wr.ownsRow w.heap.size 203 1 (.slice Ag i cg) i (gs.map Hd.v) ∧ Exc (TlD s.ts) w wr) (fun _ kk _ => 20 - (intOf kk).toNat)
              case atStart => exact ⟨0, A, c, by omega, rfl, rfl, hS, fun q hq => .inl hq, hog, hE⟩
              case round =>
                clear hS hog hE
                obtain ⟨t, A', c', ht, rfl, rfl, hS, hvb, hog, hE⟩ := hrel
                have q7 := Q7 wr hE
                have qg : wr.cell? ⟨g, i, none⟩ = some (.slice A N c) := by
                  rw [World.ownsRow.cellAt (HT wr hE) i (by omega)]
                  simp [HH.out]
                have hsz := hE.size
                by_cases hlt20 : t < 20
                · have hBr : B ≤ wr.heap.size := by omega
                  go_wp2_with (at_builtin; refine wpList_append_apart rfl _ _ 203 rfl B 220 i0 _ 2 4 Try.underlying203 hi hz0 hz1 hz2 rfl (by decide) _ (N + t) _ rfl ((hS.keep (KeepR.of_ext (ext_alloc wr _))).cur _ HH.out).1 ⟨wr.heap.size, 0, none⟩ 1 1 [.int .u16 ((i : Int)), .int .u16 (((N : Int) + (t : Int)))] rfl rfl (news_row wr _ _ _) (by intro u hu; simp only [List.mem_cons, List.not_mem_nil, or_false] at hu; rcases hu with rfl | rfl <;> rfl) (by decide) (by unfold maxLen; omega) (by omega) (by simp; omega) ?_; intro v' w3 ho3 hc3)
                  have e1 : [Value.int .u16 ((i : Int)), .int .u16 (((N : Int) + (t : Int)))] = mkd i (N + t) := by simp [mkd]
                  rw [e1] at ho3
                  clear e1
                  obtain ⟨row, hg3, hr3⟩ := grown_row ((hS.keep (KeepR.of_ext (ext_alloc wr _))).cur _ HH.out).1 hc3
                  have hS3 := (hS.keep (KeepR.of_ext (ext_alloc wr _))).push len_mkd HH.out ho3 hc3
                  have hog3 := keep_row hg3 hr3 (by decide) _ _ _ (hog.alloc _)
                  obtain ⟨⟨row2, hg4, hr4⟩, hvb3⟩ := push_at (S := w.heap.size) (b := (Value.slice A N c).ownBlock) hc3 (by simp; omega) hvb
                  have hE3 := exc_tld (hE.trans (Exc.of_ext (ext_alloc wr _))) hg4 (fun q hq => (hr4 q hq).imp (fun e _ => HTl i _ q HH.out e) id)
                  obtain ⟨A3, c3, rfl⟩ := slice_of_own ho3
                  clear hg3 hr3 ho3 hc3 hS hog hE q7 qg hg4 hr4 hvb
                  go_wp2
                  go_roundw
                  case rel => exact ⟨t + 1, A3, c3, by omega, by go_num, rfl, hS3, hvb3, hog3, hE3⟩
                  case measure => simp [intOf]; omega
                · obtain rfl : t = 20 := by omega
                  have hD := hS.done len_mkd HH.out rfl
                  clear hS q7 qg
                  go_wp2_with (at_builtin; refine wpList_append_own _ rfl _ _ 118 rfl w.heap.size 203 i1 (.slice none 0 0) 1 24 Try.underlying118 hi1 hy0 hy1 hy2 rfl (by decide) _ _ _ rfl (hog.alloc _) ⟨wr.heap.size, 0, none⟩ 1 1 [.slice A' (N + 20) c'] rfl rfl (cell_one_new _ _ _) (by simp [Value.oneCell']) (by simp [maxLen]; omega) (by omega) (by simp; omega) ?_; intro v' w3 ho3 hg3 _)
                  have hr3 : ∀ q, (Value.slice Ag i cg).ownBlock = some q → w.heap.size ≤ q ∧ ∃ cs, (wr.alloc (Obj.cells #[.slice A' (N + 20) c'] 203)).heap[q]? = some (.cells cs 203 (0, 0)) := fun q hq => own_blk (hog.alloc _) hq
                  have hD3 := (hD.keep (KeepR.of_ext (ext_alloc wr _))).keep (keep_row hg3 hr3 (by decide))
                  have hE3 := exc_tld (hE.trans (Exc.of_ext (ext_alloc wr _))) hg3 (fun q hq => .inr (hr3 q hq).1)
                  obtain ⟨A3, c3, rfl⟩ := slice_of_own ho3
                  clear hg3 hr3 hog hE hD
                  go_wp2
                  go_roundw
                  case rel => exact ⟨i + 1, gs ++ [⟨A', N + 20, c'⟩], A3, c3, by omega, by go_num, rfl, by simp [HGL.out], hD3, by rw [List.map_append]; exact ho3, hE3⟩
                  case measure => simp [intOf]; omega
            · clear hi hz0 hz1 hz2 hi1 hy0 hy1 hy2
              obtain ⟨w5, h5⟩ : ∃ W, W = wr := ⟨_, rfl⟩
              subst h5
              go_wp2
              clear q7
              go_loopw [10] (fun ii W => ∃ j : Nat, j ≤ m ∧ ii = .int .i64 j ∧ Ext w5 W) (fun ii _ => m - (intOf ii).toNat)
              case atStart => exact ⟨0, Nat.zero_le _, rfl, Below.refl _ _⟩
              case round =>
                obtain ⟨j, hj', rfl, hE5⟩ := hrel
                have q7 := Q7 wr (hE.trans (Exc.of_ext hE5))
                by_cases hltj : j < m
                · obtain ⟨h1, hh1⟩ : ∃ h, hs[j]? = some h := ⟨_, List.getElem?_eq_getElem (by rw [HSL.out]; exact hltj)⟩
                  obtain ⟨h2, hh2⟩ : ∃ h, gs[j]? = some h := ⟨_, List.getElem?_eq_getElem (by rw [HGL.out]; omega)⟩
                  have hji : j < i := by omega
                  have hk0 := HK h1 (List.mem_of_getElem? hh1)
                  have hold := hG.old j h1 hh1
                  obtain ⟨hkk, hnew⟩ := hG.new j h1 h2 hh1 hh2
                  obtain ⟨gg, hAg, hjc, hgg⟩ := row_at (v := h2.v) hog (by rw [List.getElem?_map, hh2]; rfl)
                  obtain ⟨g, hA, hic, hg⟩ := row_at (v := h1.v) (HT w5 hE) (by rw [List.getElem?_map, hh1]; rfl)
                  subst hA hAg
                  obtain ⟨A, N, c⟩ := h1
                  obtain ⟨A2, N2, c2⟩ := h2
                  simp only at hk0 hkk hold hnew
                  subst hkk
                  have z7 : ∀ W, Ext w5 W → W.cell? ⟨xb, 7, none⟩ = some (.slice (some ⟨g, 0, none⟩) m ct) := fun W hh => Q7 W (hE.trans (Exc.of_ext hh))
                  have z1 : ∀ W, Ext w5 W → W.cell? ⟨g, j, none⟩ = some (.slice A N c) := hg
                  have z2 : ∀ W, Ext w5 W → W.cell? ⟨gg, j, none⟩ = some (.slice A2 (N + 20) c2) := hgg
                  have z2r := z2 wr hE5
                  clear hg hgg hh1 hh2
                  go_wp2
                  clear z2r q7
                  go_loopw [11] (fun kk W => ∃ k : Nat, k ≤ N + 20 ∧ kk = .int .i64 k ∧ Ext w5 W) (fun kk _ => N + 20 - (intOf kk).toNat)
                  case atStart => exact ⟨0, Nat.zero_le _, rfl, hE5⟩
                  case round =>
                    clear hE5
                    obtain ⟨k, hk', rfl, hE5⟩ := hrel
                    have z2r := z2 wr hE5
                    by_cases hltk : k < N + 20
                    · obtain ⟨g2, hA2, _, _⟩ := own_at len_mkd hnew hltk
                      simp only at hA2
                      subst hA2
                      have hc2 := fun W h => own_cell len_mkd (own_ext hnew h : World.ownsRow W _ _ _ _ _ _) hltk
                      have x0 : ∀ W, Ext w5 W → W.cell? ⟨g2, k * 2, none⟩ = some (.int .u16 ((j : Int))) := fun W h => hc2 W h 0 _ rfl
                      have x1 : ∀ W, Ext w5 W → W.cell? ⟨g2, k * 2 + 1, none⟩ = some (.int .u16 ((k : Int))) := fun W h => hc2 W h 1 _ rfl
                      clear hc2
                      have hnq : ∀ W : World, (binOp .neq 220 (.agg #[.int .u16 ((j : Int)), .int .u16 ((k : Int))]) (.agg #[.int .u16 ((j : Int)), .int .u16 ((k : Int))])).run Try.prog W = .ok (.bool false) W := fun W => by
                        have := neqRd ⟨(j : Int), (k : Int)⟩ ⟨(j : Int), (k : Int)⟩ W
                        rw [decide_eq_true rfl] at this
                        exact this
                      go_wp2
                      refine wp_cut (fun W => Ext w5 W ∧ W.heap[wr.heap.size]? = some (.cells #[.int .u16 ((j : Int)), .int .u16 ((k : Int))] 220)) ⟨hE5.trans (ext_alloc _ _), heap_alloc_new _ _⟩ ?_
                      clear z2r
                      rintro w6 ⟨hE6, hb⟩
                      by_cases hltN : k < N
                      · obtain ⟨g1, hA1, _, _⟩ := own_at len_mkd hold hltN
                        simp only at hA1
                        subst hA1
                        have hc1 := fun W h => own_cell len_mkd (own_ext hold h : World.ownsRow W _ _ _ _ _ _) hltN
                        have y0 : ∀ W, Ext w5 W → W.cell? ⟨g1, k * 2, none⟩ = some (.int .u16 ((j : Int))) := fun W h => hc1 W h 0 _ rfl
                        have y1 : ∀ W, Ext w5 W → W.cell? ⟨g1, k * 2 + 1, none⟩ = some (.int .u16 ((k : Int))) := fun W h => hc1 W h 1 _ rfl
                        clear hc1
                        refine wp_region_rg Ext rel_ext (fun _ => True) [0, 1, 2, 3, 4, 5, 6, 7, 8, 9, 10, 11, 12, 13, 14, 15, 16, 17, 18, 19, 20, 21, 22, 23, 24, 25, 26, 27, 28, 29, 30, 31, 32, 33, 34] (fun _ => none) (fun _ => none) (fun _ => false) (by kernel_rfl) (by kernel_rfl) (fun _ _ _ _ => trivial) trivial (fun W N hW _ hN => ?_)
                        have hEW := hE6.trans hW
                        have e0 : ∀ w', Ext W w' → w'.cell? ⟨_, 0, none⟩ = some _ := fun w' h => cell_of_row _ _ _ _ _ _ ((hW.trans h).blk hb)
                        have e1 : ∀ w', Ext W w' → w'.cell? ⟨_, 1, none⟩ = some _ := fun w' h => cell_of_row _ _ _ _ _ _ ((hW.trans h).blk hb)
                        clear hb
                        repeat (first | (apply wpR_one; (case ho => (simp only [List.getElem?_toArray, List.getElem?_cons_succ, List.getElem?_cons_zero]; try exact rfl)); (case hw => rfl); (case hl => rfl); (case hsp => rfl); (case he => rfl); (case hv => (intro w' hw'; (try (have hw2 := Ext.trans hEW hw')); (try (have hw3 := Exc.trans hEW hw')); (try (have hw4 := Exk.trans hEW hw')); (try (have hw5 := Mrk.trans hEW hw')); go_simp; exact rfl)); (case hw0 => (first | exact Below.refl _ _ | exact Exc.of_ext (Below.refl _ _) | exact Exk.of_ext (Below.refl _ _) | exact Mrk.of_ext (Below.refl _ _))); simp only [Act.put, List.setIfInBounds_toArray, List.set_cons_succ, List.set_cons_zero]) | (apply wpR_early; (case ho => (simp only [List.getElem?_toArray, List.getElem?_cons_succ, List.getElem?_cons_zero]; try exact rfl)); (case hw => rfl); (case hl => rfl); (case hsp => rfl); (case he => rfl); (case hv => (intro w' hw'; (try have hw2 := Ext.trans hEW hw'); go_simp; exact rfl)); simp only [Act.put, List.setIfInBounds_toArray, List.set_cons_succ, List.set_cons_zero]) | (apply wpR_pass; (case ho => (simp only [List.getElem?_toArray, List.getElem?_cons_succ, List.getElem?_cons_zero]; try exact rfl)); (case hw => rfl); (case hl => rfl); simp only [Act.put, List.setIfInBounds_toArray, List.set_cons_succ, List.set_cons_zero]))
                        apply wpR_nil
                        apply hN
                        intro w' hE' hK _
                        have hE7 := hEW.trans hE'
                        clear hK hN x0 x1 y0 y1 e0 e1 hW hE6 hEW hE' hnq
                        go_wp2
                        go_roundw
                        case rel => exact ⟨k + 1, by omega, by go_num, hE7⟩
                        case measure => simp [intOf]; omega
                      · refine wp_region_rg Ext rel_ext (fun _ => True) [0, 1, 2, 3, 4, 5, 6, 7, 8, 9, 10, 11, 12, 13, 14, 15, 16, 17, 18, 19, 20, 21, 22, 23, 24, 25, 26, 27, 28, 29, 30, 31, 32, 33, 34] (fun _ => none) (fun _ => none) (fun _ => false) (by kernel_rfl) (by kernel_rfl) (fun _ _ _ _ => trivial) trivial (fun W N hW _ hN => ?_)
                        have hEW := hE6.trans hW
                        have e0 : ∀ w', Ext W w' → w'.cell? ⟨_, 0, none⟩ = some _ := fun w' h => cell_of_row _ _ _ _ _ _ ((hW.trans h).blk hb)
                        have e1 : ∀ w', Ext W w' → w'.cell? ⟨_, 1, none⟩ = some _ := fun w' h => cell_of_row _ _ _ _ _ _ ((hW.trans h).blk hb)
                        clear hb
                        repeat (first | (apply wpR_one; (case ho => (simp only [List.getElem?_toArray, List.getElem?_cons_succ, List.getElem?_cons_zero]; try exact rfl)); (case hw => rfl); (case hl => rfl); (case hsp => rfl); (case he => rfl); (case hv => (intro w' hw'; (try (have hw2 := Ext.trans hEW hw')); (try (have hw3 := Exc.trans hEW hw')); (try (have hw4 := Exk.trans hEW hw')); (try (have hw5 := Mrk.trans hEW hw')); go_simp; exact rfl)); (case hw0 => (first | exact Below.refl _ _ | exact Exc.of_ext (Below.refl _ _) | exact Exk.of_ext (Below.refl _ _) | exact Mrk.of_ext (Below.refl _ _))); simp only [Act.put, List.setIfInBounds_toArray, List.set_cons_succ, List.set_cons_zero]) | (apply wpR_early; (case ho => (simp only [List.getElem?_toArray, List.getElem?_cons_succ, List.getElem?_cons_zero]; try exact rfl)); (case hw => rfl); (case hl => rfl); (case hsp => rfl); (case he => rfl); (case hv => (intro w' hw'; (try have hw2 := Ext.trans hEW hw'); go_simp; exact rfl)); simp only [Act.put, List.setIfInBounds_toArray, List.set_cons_succ, List.set_cons_zero]) | (apply wpR_pass; (case ho => (simp only [List.getElem?_toArray, List.getElem?_cons_succ, List.getElem?_cons_zero]; try exact rfl)); (case hw => rfl); (case hl => rfl); simp only [Act.put, List.setIfInBounds_toArray, List.set_cons_succ, List.set_cons_zero]))
                        apply wpR_nil
                        apply hN
                        intro w' hE' hK _
                        have hE7 := hEW.trans hE'
                        clear hK hN x0 x1 e0 e1 hW hE6 hEW hE' hnq
                        go_wp2
                        go_roundw
                        case rel => exact ⟨k + 1, by omega, by go_num, hE7⟩
                        case measure => simp [intOf]; omega
                    · have hkN : k = N + 20 := by omega
                      clear hkN
                      go_wp2
                      go_roundw
                      case rel => exact ⟨j + 1, by omega, by go_num, hE5⟩
                      case measure => simp [intOf]; omega
                · have hR5 := (HR w5 hE).ext hE5
                  have f7 := frozen_of_row wr xb 7 _ _ hR5.hd
                  have hF := hR5.forget
                  have hXF := ((tld_excd h.pt.tds hE).trans (Exc.of_ext hE5)).trans (one_exc (setCell_excr wr xb 7 (.slice none 0 0)) h.hB)
                  obtain ⟨mw, hmw⟩ : ∃ k, s.ws.length = k := ⟨_, rfl⟩
                  have hmwn : mw ≤ 1000 := by
                    rw [← hmw]
                    have := h.pt.wks.cnt
                    omega
                  have HMW := Lib.hid hmw
                  clear hR5 hmw hG hog hE
                  go_wp2
                  clear q7 f7
                  go_loopw [13] (fun ii W => ∃ j : Nat, j ≤ 3 ∧ ii = .int .i64 j ∧ Restd B xb n W { s with At := none, ct := 0, ts := [] } ∧ Exc (fun q _ => B ≤ q) w W) (fun ii _ => 3 - (intOf ii).toNat)
                  case atStart => exact ⟨0, by omega, rfl, hF, hXF⟩
                  case round =>
                    clear hF hXF hE5 hltj hj'
                    obtain ⟨j, hj', rfl, hR, hX⟩ := hrel
                    by_cases hlt3 : j < 3
                    · have x0 : ∀ W, Ext wr W → W.cell? ⟨xb, j, none⟩ = some (.pointer (some ⟨s.p.P j, 0, none⟩)) := fun W hh => by rw [cell_of_row _ _ _ _ _ _ (hR.ext hh).hd, wk_p _ hlt3]
                      have x1 : ∀ W, Ext wr W → W.cell? ⟨xb, 3 + j, none⟩ = some (.pointer (some ⟨s.r.P j, 0, none⟩)) := fun W hh => by rw [cell_of_row _ _ _ _ _ _ (hR.ext hh).hd, wk_r _ hlt3]
                      have hji : (j : Int) < 3 := by omega
                      have hS := hR.ps.ps j hlt3
                      have hU := hR.rs.ps j hlt3
                      have hl1 := hR.ps.len j hlt3
                      have hbd := hS.bd
                      have heq := hok.eq j hlt3
                      simp only at hS hU hl1 hbd
                      rw [← heq] at hU
                      have r0 : ∀ W, Ext wr W → W.cell? ⟨s.r.P j, 0, none⟩ = some (.slice (s.r.A j) (s.p.L j).length (s.r.c j)) := fun W hh => cell_of_row _ _ _ _ _ _ (hU.ext hh).hd
                      have HLP := fun W (hh : Ext wr W) => len_anyd (hS.ext hh) (by omega)
                      rw [cnt_ofd hS.wf hS.bd] at HLP
                      have HLR := fun W (hh : Ext wr W) => rlen_any (hU.ext hh) (by omega)
                      clear heq
                      go_wp2
                      refine wp_region_rg Ext rel_ext (fun _ => True) [0, 1, 2, 3, 4, 5, 6, 7, 8, 9, 10, 11, 12, 13, 14, 15, 16, 17, 18, 19, 20, 21, 22, 23, 24, 25, 26, 27, 28, 29, 30, 31, 32, 33, 34] (fun i => match i with
                        | 6 => some fun _ z V => RunsPd (s.p.L j) z V
                        | 16 => some fun _ z _ => z = .bool true
                        | 24 => some fun _ z _ => z = .int .i64 (cnt (s.p.L j))
                        | 31 => some fun _ z _ => z = .int .i64 (cnt (s.p.L j))
                        | _ => none) (fun _ => none) (fun _ => false) (by kernel_rfl) (by kernel_rfl) (fun _ _ _ _ => trivial) trivial (fun W N hW _ hN => ?_)
                      have hEW := hW
                      repeat (first | (apply wpR_one; (case ho => (simp only [List.getElem?_toArray, List.getElem?_cons_succ, List.getElem?_cons_zero]; try exact rfl)); (case hw => rfl); (case hl => rfl); (case hsp => rfl); (case he => rfl); (case hv => (intro w' hw'; (try (have hw2 := Ext.trans hEW hw')); (try (have hw3 := Exc.trans hEW hw')); (try (have hw4 := Exk.trans hEW hw')); (try (have hw5 := Mrk.trans hEW hw')); go_simp; exact rfl)); (case hw0 => (first | exact Below.refl _ _ | exact Exc.of_ext (Below.refl _ _) | exact Exk.of_ext (Below.refl _ _) | exact Mrk.of_ext (Below.refl _ _))); simp only [Act.put, List.setIfInBounds_toArray, List.set_cons_succ, List.set_cons_zero]) | (apply wpR_early; (case ho => (simp only [List.getElem?_toArray, List.getElem?_cons_succ, List.getElem?_cons_zero]; try exact rfl)); (case hw => rfl); (case hl => rfl); (case hsp => rfl); (case he => rfl); (case hv => (intro w' hw'; (try have hw2 := Ext.trans hEW hw'); go_simp; exact rfl)); simp only [Act.put, List.setIfInBounds_toArray, List.set_cons_succ, List.set_cons_zero]) | (apply wpR_pass; (case ho => (simp only [List.getElem?_toArray, List.getElem?_cons_succ, List.getElem?_cons_zero]; try exact rfl)); (case hw => rfl); (case hl => rfl); simp only [Act.put, List.setIfInBounds_toArray, List.set_cons_succ, List.set_cons_zero]))
                      refine wpR_new (by ((simp only [List.getElem?_toArray, List.getElem?_cons_succ, List.getElem?_cons_zero]; try exact rfl))) _ rfl rfl rfl (fun V v => RunsPd.lasts _ _) (fun V V' h => rfl) (fun w' hw' hK => ?_) (fun z hz => ?_)
                      · clear hK
                        unfold opAt; go_simp; refine upAt_enter ?_
                        refine (runs_anyd (hS.ext (hEW.trans hw')) (by omega)).mono ?_
                        rintro e v5 ⟨A5, c5, rfl, h5, hE5⟩
                        exact ⟨_, rfl, hE5, _, A5, c5, rfl, h5⟩
                      obtain ⟨_, _, _, _, Ar, cr, rfl, _⟩ := hz
                      simp only [Act.put, List.setIfInBounds_toArray, List.set_cons_succ, List.set_cons_zero]
                      repeat (first | (apply wpR_one; (case ho => (simp only [List.getElem?_toArray, List.getElem?_cons_succ, List.getElem?_cons_zero]; try exact rfl)); (case hw => rfl); (case hl => rfl); (case hsp => rfl); (case he => rfl); (case hv => (intro w' hw'; (try (have hw2 := Ext.trans hEW hw')); (try (have hw3 := Exc.trans hEW hw')); (try (have hw4 := Exk.trans hEW hw')); (try (have hw5 := Mrk.trans hEW hw')); go_simp; exact rfl)); (case hw0 => (first | exact Below.refl _ _ | exact Exc.of_ext (Below.refl _ _) | exact Exk.of_ext (Below.refl _ _) | exact Mrk.of_ext (Below.refl _ _))); simp only [Act.put, List.setIfInBounds_toArray, List.set_cons_succ, List.set_cons_zero]) | (apply wpR_early; (case ho => (simp only [List.getElem?_toArray, List.getElem?_cons_succ, List.getElem?_cons_zero]; try exact rfl)); (case hw => rfl); (case hl => rfl); (case hsp => rfl); (case he => rfl); (case hv => (intro w' hw'; (try have hw2 := Ext.trans hEW hw'); go_simp; exact rfl)); simp only [Act.put, List.setIfInBounds_toArray, List.set_cons_succ, List.set_cons_zero]) | (apply wpR_pass; (case ho => (simp only [List.getElem?_toArray, List.getElem?_cons_succ, List.getElem?_cons_zero]; try exact rfl)); (case hw => rfl); (case hl => rfl); simp only [Act.put, List.setIfInBounds_toArray, List.set_cons_succ, List.set_cons_zero]))
                      refine wpR_new (by ((simp only [List.getElem?_toArray, List.getElem?_cons_succ, List.getElem?_cons_zero]; try exact rfl))) _ rfl rfl rfl (fun V v => Lasts.pure) (fun V V' h => rfl) (fun w' hw' hK => ?_) (fun z hz => ?_)
                      · obtain ⟨B', A', c', e, hrr⟩ := (hK 6 (by kernel_rfl)).2
                        have hee : Ar = A' ∧ cr = c' := by simpa using e
                        obtain ⟨rfl, rfl⟩ := hee
                        have hEE := hEW.trans hw'
                        clear hK e
                        unfold opAt; go_simp; refine upAt_enter ?_
                        refine (eqr_anyd hrr (hU.ext hEE).row hbd (by omega) (by omega)).mono ?_
                        rintro e v5 ⟨rfl, hE5⟩
                        exact ⟨_, rfl, hE5, by rw [decide_eq_true rfl]⟩
                      obtain ⟨_, _, _, rfl⟩ := hz
                      simp only [Act.put, List.setIfInBounds_toArray, List.set_cons_succ, List.set_cons_zero]
                      repeat (first | (apply wpR_one; (case ho => (simp only [List.getElem?_toArray, List.getElem?_cons_succ, List.getElem?_cons_zero]; try exact rfl)); (case hw => rfl); (case hl => rfl); (case hsp => rfl); (case he => rfl); (case hv => (intro w' hw'; (try (have hw2 := Ext.trans hEW hw')); (try (have hw3 := Exc.trans hEW hw')); (try (have hw4 := Exk.trans hEW hw')); (try (have hw5 := Mrk.trans hEW hw')); go_simp; exact rfl)); (case hw0 => (first | exact Below.refl _ _ | exact Exc.of_ext (Below.refl _ _) | exact Exk.of_ext (Below.refl _ _) | exact Mrk.of_ext (Below.refl _ _))); simp only [Act.put, List.setIfInBounds_toArray, List.set_cons_succ, List.set_cons_zero]) | (apply wpR_early; (case ho => (simp only [List.getElem?_toArray, List.getElem?_cons_succ, List.getElem?_cons_zero]; try exact rfl)); (case hw => rfl); (case hl => rfl); (case hsp => rfl); (case he => rfl); (case hv => (intro w' hw'; (try have hw2 := Ext.trans hEW hw'); go_simp; exact rfl)); simp only [Act.put, List.setIfInBounds_toArray, List.set_cons_succ, List.set_cons_zero]) | (apply wpR_pass; (case ho => (simp only [List.getElem?_toArray, List.getElem?_cons_succ, List.getElem?_cons_zero]; try exact rfl)); (case hw => rfl); (case hl => rfl); simp only [Act.put, List.setIfInBounds_toArray, List.set_cons_succ, List.set_cons_zero]))
                      refine wpR_new (by ((simp only [List.getElem?_toArray, List.getElem?_cons_succ, List.getElem?_cons_zero]; try exact rfl))) _ rfl rfl rfl (fun V v => Lasts.pure) (fun V V' h => rfl) (fun w' hw' hK => ?_) (fun z hz => ?_)
                      · clear hK
                        unfold opAt; go_simp; refine upAt_enter ?_
                        refine (HLP _ (hEW.trans hw')).mono ?_
                        rintro e v5 ⟨rfl, hE5⟩
                        exact ⟨_, rfl, hE5, rfl⟩
                      obtain ⟨_, _, _, rfl⟩ := hz
                      simp only [Act.put, List.setIfInBounds_toArray, List.set_cons_succ, List.set_cons_zero]
                      repeat (first | (apply wpR_one; (case ho => (simp only [List.getElem?_toArray, List.getElem?_cons_succ, List.getElem?_cons_zero]; try exact rfl)); (case hw => rfl); (case hl => rfl); (case hsp => rfl); (case he => rfl); (case hv => (intro w' hw'; (try (have hw2 := Ext.trans hEW hw')); (try (have hw3 := Exc.trans hEW hw')); (try (have hw4 := Exk.trans hEW hw')); (try (have hw5 := Mrk.trans hEW hw')); go_simp; exact rfl)); (case hw0 => (first | exact Below.refl _ _ | exact Exc.of_ext (Below.refl _ _) | exact Exk.of_ext (Below.refl _ _) | exact Mrk.of_ext (Below.refl _ _))); simp only [Act.put, List.setIfInBounds_toArray, List.set_cons_succ, List.set_cons_zero]) | (apply wpR_early; (case ho => (simp only [List.getElem?_toArray, List.getElem?_cons_succ, List.getElem?_cons_zero]; try exact rfl)); (case hw => rfl); (case hl => rfl); (case hsp => rfl); (case he => rfl); (case hv => (intro w' hw'; (try have hw2 := Ext.trans hEW hw'); go_simp; exact rfl)); simp only [Act.put, List.setIfInBounds_toArray, List.set_cons_succ, List.set_cons_zero]) | (apply wpR_pass; (case ho => (simp only [List.getElem?_toArray, List.getElem?_cons_succ, List.getElem?_cons_zero]; try exact rfl)); (case hw => rfl); (case hl => rfl); simp only [Act.put, List.setIfInBounds_toArray, List.set_cons_succ, List.set_cons_zero]))
                      refine wpR_new (by ((simp only [List.getElem?_toArray, List.getElem?_cons_succ, List.getElem?_cons_zero]; try exact rfl))) _ rfl rfl rfl (fun V v => Lasts.pure) (fun V V' h => rfl) (fun w' hw' hK => ?_) (fun z hz => ?_)
                      · clear hK
                        unfold opAt; go_simp; refine upAt_enter ?_
                        refine (HLR _ (hEW.trans hw')).mono ?_
                        rintro e v5 ⟨rfl, hE5⟩
                        exact ⟨_, rfl, hE5, rfl⟩
                      obtain ⟨_, _, _, rfl⟩ := hz
                      simp only [Act.put, List.setIfInBounds_toArray, List.set_cons_succ, List.set_cons_zero]
                      repeat (first | (apply wpR_one; (case ho => (simp only [List.getElem?_toArray, List.getElem?_cons_succ, List.getElem?_cons_zero]; try exact rfl)); (case hw => rfl); (case hl => rfl); (case hsp => rfl); (case he => rfl); (case hv => (intro w' hw'; (try (have hw2 := Ext.trans hEW hw')); (try (have hw3 := Exc.trans hEW hw')); (try (have hw4 := Exk.trans hEW hw')); (try (have hw5 := Mrk.trans hEW hw')); go_simp; exact rfl)); (case hw0 => (first | exact Below.refl _ _ | exact Exc.of_ext (Below.refl _ _) | exact Exk.of_ext (Below.refl _ _) | exact Mrk.of_ext (Below.refl _ _))); simp only [Act.put, List.setIfInBounds_toArray, List.set_cons_succ, List.set_cons_zero]) | (apply wpR_early; (case ho => (simp only [List.getElem?_toArray, List.getElem?_cons_succ, List.getElem?_cons_zero]; try exact rfl)); (case hw => rfl); (case hl => rfl); (case hsp => rfl); (case he => rfl); (case hv => (intro w' hw'; (try have hw2 := Ext.trans hEW hw'); go_simp; exact rfl)); simp only [Act.put, List.setIfInBounds_toArray, List.set_cons_succ, List.set_cons_zero]) | (apply wpR_pass; (case ho => (simp only [List.getElem?_toArray, List.getElem?_cons_succ, List.getElem?_cons_zero]; try exact rfl)); (case hw => rfl); (case hl => rfl); simp only [Act.put, List.setIfInBounds_toArray, List.set_cons_succ, List.set_cons_zero]))
                      apply wpR_nil
                      apply hN
                      intro v5 hE5 hK _
                      have hR2 := hR.ext (hEW.trans hE5)
                      have hX2 := hX.trans (Exc.of_ext (hEW.trans hE5))
                      clear hK hN x0 x1 r0 hW hEW hE5 HLP HLR
                      go_wp2
                      go_roundw
                      case rel => exact ⟨j + 1, by omega, by go_num, hR2, hX2⟩
                      case measure => simp [intOf]; omega
                    · go_wp2
                      go_loopw [15] (fun ii W => ∃ j : Nat, j ≤ mw ∧ ii = .int .i64 j ∧ Restd B xb n W { s with At := none, ct := 0, ts := [] } ∧ Exc (fun q _ => B ≤ q) w W) (fun ii _ => mw - (intOf ii).toNat)
                      case atStart => exact ⟨0, Nat.zero_le _, rfl, hR, hX⟩
                      case round =>
                        clear hR hX hlt3 hj'
                        obtain ⟨j, hj', rfl, hR, hX⟩ := hrel
                        have q6 : wr.cell? ⟨xb, 6, none⟩ = some (.slice s.Aw mw s.cw) := by
                          rw [cell_of_row _ _ 6 _ _ _ hR.hd]
                          simp only [Wk.cells, List.getElem?_toArray, List.getElem?_cons_zero, List.getElem?_cons_succ]
                          rw [HMW.out]
                        by_cases hltw : j < mw
                        · obtain ⟨x, hx⟩ : ∃ x, s.ws[j]? = some x := ⟨_, List.getElem?_eq_getElem (by rw [HMW.out]; exact hltw)⟩
                          obtain ⟨g, hAw, hjc, hrd⟩ := hR.wks.at hx
                          have hxm := List.mem_of_getElem? hx
                          have hwk := hR.wks.wk x hxm
                          have hof := hR.wks.of x hxm
                          have hln := hR.wks.len x hxm
                          simp only at hAw hjc
                          rw [hAw] at q6
                          have z6 : ∀ W, Ext wr W → W.cell? ⟨xb, 6, none⟩ = some (.slice (some ⟨g, 0, none⟩) mw s.cw) := fun W hh => by
                            rw [cell_of_row _ _ 6 _ _ _ (hR.ext hh).hd]
                            simp only [Wk.cells, List.getElem?_toArray, List.getElem?_cons_zero, List.getElem?_cons_succ]
                            rw [hAw, HMW.out]
                          have z0 : ∀ W, Ext wr W → W.cell? ⟨g, j * 2, none⟩ = some (walkVd x.b) := fun W hh => (hrd W hh).1
                          have z1 : ∀ W, Ext wr W → W.cell? ⟨g, j * 2 + 1, none⟩ = some (.pointer (some ⟨x.q, 0, none⟩)) := fun W hh => (hrd W hh).2
                          clear hAw hrd hx
                          go_wp2
                          refine wp_region_rg Ext rel_ext (fun _ => True) [0, 1, 2, 3, 4, 5, 6, 7, 8, 9, 10, 11, 12, 13, 14, 15, 16, 17] (fun i => match i with | 16 => some fun _ z _ => z = .bool true | _ => none) (fun _ => none) (fun _ => false) (by kernel_rfl) (by kernel_rfl) (fun _ _ _ _ => trivial) trivial (fun W N hW _ hN => ?_)
                          have hEW := hW
                          repeat (first | (apply wpR_one; (case ho => (simp only [List.getElem?_toArray, List.getElem?_cons_succ, List.getElem?_cons_zero]; try exact rfl)); (case hw => rfl); (case hl => rfl); (case hsp => rfl); (case he => rfl); (case hv => (intro w' hw'; (try (have hw2 := Ext.trans hEW hw')); (try (have hw3 := Exc.trans hEW hw')); (try (have hw4 := Exk.trans hEW hw')); (try (have hw5 := Mrk.trans hEW hw')); go_simp; exact rfl)); (case hw0 => (first | exact Below.refl _ _ | exact Exc.of_ext (Below.refl _ _) | exact Exk.of_ext (Below.refl _ _) | exact Mrk.of_ext (Below.refl _ _))); simp only [Act.put, List.setIfInBounds_toArray, List.set_cons_succ, List.set_cons_zero]) | (apply wpR_early; (case ho => (simp only [List.getElem?_toArray, List.getElem?_cons_succ, List.getElem?_cons_zero]; try exact rfl)); (case hw => rfl); (case hl => rfl); (case hsp => rfl); (case he => rfl); (case hv => (intro w' hw'; (try have hw2 := Ext.trans hEW hw'); go_simp; exact rfl)); simp only [Act.put, List.setIfInBounds_toArray, List.set_cons_succ, List.set_cons_zero]) | (apply wpR_pass; (case ho => (simp only [List.getElem?_toArray, List.getElem?_cons_succ, List.getElem?_cons_zero]; try exact rfl)); (case hw => rfl); (case hl => rfl); simp only [Act.put, List.setIfInBounds_toArray, List.set_cons_succ, List.set_cons_zero]))
                          refine wpR_new (by ((simp only [List.getElem?_toArray, List.getElem?_cons_succ, List.getElem?_cons_zero]; try exact rfl))) _ rfl rfl rfl (fun V v => Lasts.pure) (fun V V' h => rfl) (fun w' hw' hK => ?_) (fun z hz => ?_)
                          · have hEE := hEW.trans hw'
                            clear hK
                            unfold opAt; go_simp; refine upAt_enter ?_
                            refine (goes_anyd (k := 30) (hwk.ext hEE) (hof.ext hEE) (by omega) (by omega)).mono ?_
                            rintro e v5 ⟨rfl, hE5⟩
                            exact ⟨_, rfl, hE5, rfl⟩
                          obtain ⟨_, _, _, rfl⟩ := hz
                          simp only [Act.put, List.setIfInBounds_toArray, List.set_cons_succ, List.set_cons_zero]
                          repeat (first | (apply wpR_one; (case ho => (simp only [List.getElem?_toArray, List.getElem?_cons_succ, List.getElem?_cons_zero]; try exact rfl)); (case hw => rfl); (case hl => rfl); (case hsp => rfl); (case he => rfl); (case hv => (intro w' hw'; (try (have hw2 := Ext.trans hEW hw')); (try (have hw3 := Exc.trans hEW hw')); (try (have hw4 := Exk.trans hEW hw')); (try (have hw5 := Mrk.trans hEW hw')); go_simp; exact rfl)); (case hw0 => (first | exact Below.refl _ _ | exact Exc.of_ext (Below.refl _ _) | exact Exk.of_ext (Below.refl _ _) | exact Mrk.of_ext (Below.refl _ _))); simp only [Act.put, List.setIfInBounds_toArray, List.set_cons_succ, List.set_cons_zero]) | (apply wpR_early; (case ho => (simp only [List.getElem?_toArray, List.getElem?_cons_succ, List.getElem?_cons_zero]; try exact rfl)); (case hw => rfl); (case hl => rfl); (case hsp => rfl); (case he => rfl); (case hv => (intro w' hw'; (try have hw2 := Ext.trans hEW hw'); go_simp; exact rfl)); simp only [Act.put, List.setIfInBounds_toArray, List.set_cons_succ, List.set_cons_zero]) | (apply wpR_pass; (case ho => (simp only [List.getElem?_toArray, List.getElem?_cons_succ, List.getElem?_cons_zero]; try exact rfl)); (case hw => rfl); (case hl => rfl); simp only [Act.put, List.setIfInBounds_toArray, List.set_cons_succ, List.set_cons_zero]))
                          apply wpR_nil
                          apply hN
                          intro v5 hE5 hK _
                          have hR2 := hR.ext (hEW.trans hE5)
                          have hX2 := hX.trans (Exc.of_ext (hEW.trans hE5))
                          clear hK hN z6 z0 z1 hW hEW hE5 q6
                          go_wp2
                          go_roundw
                          case rel => exact ⟨j + 1, by omega, by go_num, hR2, hX2⟩
                          case measure => simp [intOf]; omega
                        · go_wp2
                          go_ret
                          exact ⟨rfl, hX⟩
end Go.Proofs.Ytffapgemacbdjaa
