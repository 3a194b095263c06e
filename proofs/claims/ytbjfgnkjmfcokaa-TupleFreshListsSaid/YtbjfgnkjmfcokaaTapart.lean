/- Layer 3: the contract of the law's apart. No condition but that the lists are rows of the caller's own that lie apart. -/
import Derived.Test.YtbjfgnkjmfcokaaTmark
import Derived.Test.YtbjfgnkjmfcokaaTown
import Derived.Test.YtbjfgnkjmfcokaaAparw
namespace Go.Proofs.Ytbjfgnkjmfcokaa
open Go.RowKit Go.Proofs
set_option linter.unusedVariables false
theorem infoSlV : (Try.prog.info? 24).map (fun i => (i.zero, i.size, i.bytes)) = some (some (.slice none 0 0), 1, 24) := by kernel_rfl
abbrev mine : List UInt8 := [109, 105, 110, 101]
abbrev mkP (i k : Nat) : List Value := [.int .i64 i, .bool false, .int .i64 k, .float .f64 0, .complex .f64 0 0, str mine]
theorem len_mkP (i k : Nat) : (mkP i k).length = 6 := rfl
theorem one_mkP (i k : Nat) : ∀ u ∈ mkP i k, u.oneCell' = true := by
  intro u hu
  simp only [mkP, List.mem_cons, List.not_mem_nil, or_false] at hu
  rcases hu with rfl | rfl | rfl | rfl | rfl | rfl <;> rfl
set_option maxRecDepth 100000 in
set_option maxHeartbeats 2000000 in
theorem tapart_any {hs : List Hd} {gl cl B : Nat} {cur : Array Value} {fr : Nat × Nat} {w : World} (hhd : w.heap[gl]? = some (.cells cur 24 fr)) (hcur : ∀ (j : Nat) (h : Hd), hs[j]? = some h → cur[j]? = some h.v) (hl : hs.length ≤ 1000000) (hlc : hs.length ≤ cl)
    (hkk : ∀ h ∈ hs, h.k ≤ 1099511627776) (hB : B ≤ w.heap.size) (hA : ApartH hs) (hR : ∀ (j : Nat) (h : Hd), hs[j]? = some h → ∃ xs, w.ownsRow B 56 6 h.v h.k xs) :
    Calls Try.prog 33 #[.slice (some ⟨gl, 0, none⟩) hs.length cl] w fun e w' => e = .returned (.bool true) ∧ Exc (fun q _ => B ≤ q) w w' := by
  obtain ⟨i0, hi, hz0, hz1, hz2⟩ := info_parts infoVal
  obtain ⟨i1, hi1, hy0, hy1, hy2⟩ := info_parts infoSlV
  have hsf := run_store_float Try.prog
  have hsc := run_store_complex Try.prog
  have hgl := (Array.getElem?_eq_some_iff.1 hhd).1
  have HC := Lib.hid hcur
  have HK := Lib.hid hkk
  have hM0 : Marked 56 6 B mkP hs 0 0 w := Marked.start hR
  clear hcur hkk hR
  go_enter Try.func33, Try.ntmps33
  go_wp2
  go_loopw [3] (fun ii wr => ∃ i : Nat, i ≤ hs.length ∧ ii = .int .i64 i ∧ Marked 56 6 B mkP hs i 0 wr ∧ wr.heap[gl]? = some (.cells cur 24 fr) ∧ Exc (fun q _ => B ≤ q) w wr) (fun ii _ => hs.length - (intOf ii).toNat)
  case atStart => exact ⟨0, Nat.zero_le _, rfl, hM0, hhd, exc_refl _ _⟩
  case round =>
    clear hM0 hhd
    obtain ⟨i, hi', rfl, hM, hhd, hE⟩ := hrel
    by_cases hlt : i < hs.length
    · obtain ⟨h, hh⟩ : ∃ h, hs[i]? = some h := ⟨_, List.getElem?_eq_getElem hlt⟩
      have hk0 := HK.out h (List.mem_of_getElem? hh)
      have hic : i < cl := by omega
      obtain ⟨A, N, c⟩ := h
      simp only at hk0
      have HH := Lib.hid hh
      have hq : wr.cell? ⟨gl, i, none⟩ = some (.slice A N c) := by rw [cell_of_row wr gl i cur _ _ hhd]; exact HC.out i _ hh
      clear hh
      go_wp2
      clear hq
      go_loopw [4] (fun kk wr => ∃ k : Nat, k ≤ N ∧ kk = .int .i64 k ∧ Marked 56 6 B mkP hs i k wr ∧ wr.heap[gl]? = some (.cells cur 24 fr) ∧ Exc (fun q _ => B ≤ q) w wr) (fun kk _ => N - (intOf kk).toNat)
      case atStart => exact ⟨0, Nat.zero_le _, rfl, hM, hhd, hE⟩
      case round =>
        clear hM hhd hE
        obtain ⟨k, hk', rfl, hM, hhd, hE⟩ := hrel
        have hq : wr.cell? ⟨gl, i, none⟩ = some (.slice A N c) := by rw [cell_of_row wr gl i cur _ _ hhd]; exact HC.out i _ HH.out
        by_cases hltk : k < N
        · obtain ⟨g, xs, hg, hBg, ho, hp⟩ := hM.row HH.out hltk
          simp only at hg ho
          subst hg
          go_wp2_with (refine wpList_store_own rfl 56 (.tmp 35) (.tmp 34) rfl g N c (mkP i k) rfl rfl ho hltk rfl (by kernel_rfl) (one_mkP i k) ?_; intro w3 ho3 hg3)
          have hM3 := hM.stored len_mkP hA HH.out hltk rfl hp ho3 hg3
          have hne : gl ≠ g := fun e => own_not ho hhd (by decide) (by rw [e]; rfl)
          have hhd3 := blk_other hhd hg3 hne
          have hE3 := hE.trans (Exc.of_only hg3 (fun _ _ => hBg))
          go_roundw
          case rel => exact ⟨k + 1, by omega, by go_num, hM3, hhd3, hE3⟩
          case measure => simp [intOf]; omega
        · obtain rfl : k = N := by omega
          have hM3 := hM.next HH.out rfl
          go_wp2
          go_roundw
          case rel => exact ⟨i + 1, by omega, by go_num, hM3, hhd, hE⟩
          case measure => simp [intOf]; omega
    · obtain rfl : i = hs.length := by omega
      have hG0 : Grown 56 6 B mkP 16 hs [] wr := Grown.start (hM.done (Nat.le_refl _))
      clear hM
      go_wp2
      go_loopw [5, 6] (fun gv ii wr => ∃ (i : Nat) (gs : List Hd) (Ag : Option Addr) (cg : Nat), i ≤ hs.length ∧ ii = .int .i64 i ∧ gv = .slice Ag i cg ∧ gs.length = i ∧ Grown 56 6 B mkP 16 hs gs wr ∧ wr.ownsRow w.heap.size 24 1 (.slice Ag i cg) i (gs.map Hd.v) ∧ wr.heap[gl]? = some (.cells cur 24 fr) ∧ Exc (fun q _ => B ≤ q) w wr) (fun _ ii _ => hs.length - (intOf ii).toNat)
      case atStart => exact ⟨0, [], none, 0, Nat.zero_le _, rfl, rfl, rfl, hG0, World.ownsRow_nil _ _ _ _, hhd, hE⟩
      case round =>
        clear hG0 hhd hE
        obtain ⟨i, gs, Ag, cg, hi', rfl, rfl, hgl', hG, hog, hhd, hE⟩ := hrel
        have HGL := Lib.hid hgl'
        clear hgl'
        by_cases hlt : i < hs.length
        · obtain ⟨h, hh⟩ : ∃ h, hs[i]? = some h := ⟨_, List.getElem?_eq_getElem hlt⟩
          have hk0 := HK.out h (List.mem_of_getElem? hh)
          have hic : i < cl := by omega
          have hS := Growing.start hA hG HGL.out hh
          obtain ⟨A, N, c⟩ := h
          simp only at hk0
          have HH := Lib.hid hh
          have hq : wr.cell? ⟨gl, i, none⟩ = some (.slice A N c) := by rw [cell_of_row wr gl i cur _ _ hhd]; exact HC.out i _ hh
          clear hh hG
          go_wp2
          clear hq
          go_loopw [7, 8] (fun gv kk wr => ∃ (t : Nat) (A' : Option Addr) (c' : Nat), t ≤ 16 ∧ kk = .int .i64 t ∧ gv = .slice A' (N + t) c' ∧ Growing 56 6 B mkP 16 hs gs i t (.slice A' (N + t) c') wr ∧ wr.ownsRow w.heap.size 24 1 (.slice Ag i cg) i (gs.map Hd.v) ∧ wr.heap[gl]? = some (.cells cur 24 fr) ∧ Exc (fun q _ => B ≤ q) w wr) (fun _ kk _ => 16 - (intOf kk).toNat)
          case atStart => exact ⟨0, A, c, by omega, rfl, rfl, hS, hog, hhd, hE⟩
          case round =>
            clear hS hog hhd hE
            obtain ⟨t, A', c', ht, rfl, rfl, hS, hog, hhd, hE⟩ := hrel
            have hq : wr.cell? ⟨gl, i, none⟩ = some (.slice A N c) := by rw [cell_of_row wr gl i cur _ _ hhd]; exact HC.out i _ HH.out
            have hsz := hE.size
            by_cases hlt16 : t < 16
            · have hBw : B ≤ wr.heap.size := by omega
              go_wp2_with (at_builtin; refine wpList_append_apart rfl _ _ 24 rfl B 56 i0 _ 6 64 Try.underlying24 hi hz0 hz1 hz2 rfl (by decide) _ (N + t) _ rfl ((hS.keep (KeepR.of_ext (ext_alloc wr _))).cur _ HH.out).1 ⟨wr.heap.size, 0, none⟩ 1 1 [.int .i64 i, .bool false, .int .i64 ((N : Int) + (t : Int)), .float .f64 0, .complex .f64 0 0, str mine] rfl rfl (news_of wr _ _ _) (by intro u hu; simp only [List.mem_cons, List.not_mem_nil, or_false] at hu; rcases hu with rfl | rfl | rfl | rfl | rfl | rfl <;> rfl) (by decide) (by simp [maxLen]; omega) (by omega) (by simp; omega) ?_; intro v' w3 ho3 hc3)
              have e1 : [Value.int .i64 i, .bool false, .int .i64 ((N : Int) + (t : Int)), .float .f64 0, .complex .f64 0 0, str mine] = mkP i (N + t) := by simp [mkP]
              rw [e1] at ho3
              clear e1
              obtain ⟨row, hg3, hr3⟩ := grown_row ((hS.keep (KeepR.of_ext (ext_alloc wr _))).cur _ HH.out).1 hc3
              have hS3 := (hS.keep (KeepR.of_ext (ext_alloc wr _))).push len_mkP HH.out ho3 hc3
              have hog3 := keep_row hg3 hr3 (by decide) _ _ _ (hog.alloc _)
              have hhd3 := blk_kept hg3 hr3 ((ext_alloc wr _).blk hhd) (by decide)
              have hE3 := (hE.trans (Exc.of_ext (ext_alloc wr _))).trans (exc_kept hg3 hr3)
              obtain ⟨A3, c3, rfl⟩ := slice_of_own ho3
              clear hg3 hr3 ho3 hc3 hS hog hhd hE hq
              go_wp2
              go_roundw
              case rel => exact ⟨t + 1, A3, c3, by omega, by go_num, rfl, hS3, hog3, hhd3, hE3⟩
              case measure => simp [intOf]; omega
            · obtain rfl : t = 16 := by omega
              have hD := hS.done len_mkP HH.out rfl
              clear hS hq
              go_wp2_with (at_builtin; refine wpList_append_own _ rfl _ _ 59 rfl w.heap.size 24 i1 (.slice none 0 0) 1 24 Try.underlying59 hi1 hy0 hy1 hy2 rfl (by decide) _ _ _ rfl (hog.alloc _) ⟨wr.heap.size, 0, none⟩ 1 1 [.slice A' (N + 16) c'] rfl rfl (cell_one_new _ _ _) (by simp [Value.oneCell']) (by simp [maxLen]; omega) (by omega) (by simp; omega) ?_; intro v' w3 ho3 hg3 _)
              have hr3 : ∀ q, (Value.slice Ag i cg).ownBlock = some q → w.heap.size ≤ q ∧ ∃ cs, (wr.alloc (Obj.cells #[.slice A' (N + 16) c'] 24)).heap[q]? = some (.cells cs 24 (0, 0)) := fun q hq => own_blk (hog.alloc _) hq
              have hD3 := (hD.keep (KeepR.of_ext (ext_alloc wr _))).keep (keep_row hg3 hr3 (by decide))
              have hhd3 : w3.heap[gl]? = some (.cells cur 24 fr) := (hg3.block gl (by simp; omega) (fun he => by have := (hr3 gl he.symm).1; omega)).trans ((ext_alloc wr _).blk hhd)
              have hE3 := (hE.trans (Exc.of_ext (ext_alloc wr _))).trans (Exc.of_grown (D := fun q _ => B ≤ q) hg3 (fun g o h1 _ => by have := (hr3 g h1).1; omega))
              obtain ⟨A3, c3, rfl⟩ := slice_of_own ho3
              clear hg3 hr3 hog hhd hE hD
              go_wp2
              go_roundw
              case rel => exact ⟨i + 1, gs ++ [⟨A', N + 16, c'⟩], A3, c3, by omega, by go_num, rfl, by simp [HGL.out], hD3, by rw [List.map_append]; exact ho3, hhd3, hE3⟩
              case measure => simp [intOf]; omega
        · obtain rfl : i = hs.length := by omega
          obtain ⟨w5, h5⟩ : ∃ W, W = wr := ⟨_, rfl⟩
          subst h5
          clear hi hz0 hz1 hz2 hi1 hy0 hy1 hy2
          go_wp2
          go_loopw [9] (fun ii W => ∃ i : Nat, i ≤ hs.length ∧ ii = .int .i64 i ∧ Ext w5 W) (fun ii _ => hs.length - (intOf ii).toNat)
          case atStart => exact ⟨0, Nat.zero_le _, rfl, Below.refl _ _⟩
          case round =>
            obtain ⟨i, hi', rfl, hE5⟩ := hrel
            by_cases hlt : i < hs.length
            · obtain ⟨h, hh⟩ : ∃ h, hs[i]? = some h := ⟨_, List.getElem?_eq_getElem hlt⟩
              obtain ⟨h2, hh2⟩ : ∃ h, gs[i]? = some h := ⟨_, List.getElem?_eq_getElem (show i < gs.length by have := HGL.out; omega)⟩
              have hk0 := HK.out h (List.mem_of_getElem? hh)
              have hic : i < cl := by omega
              have hold := hG.old i h hh
              obtain ⟨hkk, hnew⟩ := hG.new i h h2 hh hh2
              obtain ⟨gg, capg, hvg, _⟩ := World.ownsRow.form hog (by omega)
              injection hvg with hAg _ hcg
              subst hAg
              obtain ⟨A, N, c⟩ := h
              obtain ⟨A2, N2, c2⟩ := h2
              simp only at hk0 hkk
              subst hkk
              have hcg2 : i < cg := by
                rcases hog.2 with ⟨hx, _⟩ | ⟨_, cap, _, hx, _, _, hle, _⟩
                · cases hx
                · injection hx with _ _ hx
                  omega
              clear hcg
              have q1 : ∀ W, Ext w5 W → W.cell? ⟨gl, i, none⟩ = some (.slice A N c) := fun W h => by rw [cell_of_row W gl i cur _ _ (h.blk hhd)]; exact HC.out i _ hh
              have q2 : ∀ W, Ext w5 W → W.cell? ⟨gg, i, none⟩ = some (.slice A2 (N + 16) c2) := fun W h => by
                rw [World.ownsRow.cellAt (own_ext hog h) i (by omega)]
                simp [hh2]
              clear hh hh2
              have q2r := q2 wr hE5
              go_wp2
              clear q2r
              go_loopw [10] (fun kk W => ∃ k : Nat, k ≤ N + 16 ∧ kk = .int .i64 k ∧ Ext w5 W) (fun kk _ => N + 16 - (intOf kk).toNat)
              case atStart => exact ⟨0, Nat.zero_le _, rfl, hE5⟩
              case round =>
                clear hE5
                obtain ⟨k, hk', rfl, hE5⟩ := hrel
                have q2r := q2 wr hE5
                by_cases hltk : k < N + 16
                · obtain ⟨g2, hA2, _, _⟩ := own_at len_mkP hnew hltk
                  simp only at hA2
                  subst hA2
                  have hc2 := fun W h => own_cell len_mkP (own_ext hnew h : World.ownsRow W _ _ _ _ _ _) hltk
                  have x0 : ∀ W, Ext w5 W → W.cell? ⟨g2, k * 6, none⟩ = some (.int .i64 i) := fun W h => hc2 W h 0 _ rfl
                  have x1 : ∀ W, Ext w5 W → W.cell? ⟨g2, k * 6 + 1, none⟩ = some (.bool false) := fun W h => hc2 W h 1 _ rfl
                  have x2 : ∀ W, Ext w5 W → W.cell? ⟨g2, k * 6 + 2, none⟩ = some (.int .i64 k) := fun W h => hc2 W h 2 _ rfl
                  have x3 : ∀ W, Ext w5 W → W.cell? ⟨g2, k * 6 + 3, none⟩ = some (.float .f64 0) := fun W h => hc2 W h 3 _ rfl
                  have x4 : ∀ W, Ext w5 W → W.cell? ⟨g2, k * 6 + 4, none⟩ = some (.complex .f64 0 0) := fun W h => hc2 W h 4 _ rfl
                  have x5 : ∀ W, Ext w5 W → W.cell? ⟨g2, k * 6 + 5, none⟩ = some (str mine) := fun W h => hc2 W h 5 _ rfl
                  clear hc2
                  have hnq : ∀ W : World, (binOp .neq 56 (.agg #[.int .i64 i, .bool false, .int .i64 k, .float .f64 0, .complex .f64 0 0, str mine]) (.agg #[.int .i64 i, .bool false, .int .i64 k, .float .f64 0, .complex .f64 0 0, str mine])).run Try.prog W = .ok (.bool false) W := fun W => neqP0 _ _ _ _ W
                  go_wp2
                  refine wp_cut (fun W => Ext w5 W ∧ W.heap[wr.heap.size]? = some (.cells #[.int .i64 i, .bool false, .int .i64 k, .float .f64 0, .complex .f64 0 0, str mine] 56)) ⟨hE5.trans (ext_alloc _ _), heap_alloc_new _ _⟩ ?_
                  clear q2r
                  rintro w6 ⟨hE6, hb⟩
                  by_cases hltN : k < N
                  · obtain ⟨g1, hA1, _, _⟩ := own_at len_mkP hold hltN
                    simp only at hA1
                    subst hA1
                    have hc1 := fun W h => own_cell len_mkP (own_ext hold h : World.ownsRow W _ _ _ _ _ _) hltN
                    have y0 : ∀ W, Ext w5 W → W.cell? ⟨g1, k * 6, none⟩ = some (.int .i64 i) := fun W h => hc1 W h 0 _ rfl
                    have y1 : ∀ W, Ext w5 W → W.cell? ⟨g1, k * 6 + 1, none⟩ = some (.bool false) := fun W h => hc1 W h 1 _ rfl
                    have y2 : ∀ W, Ext w5 W → W.cell? ⟨g1, k * 6 + 2, none⟩ = some (.int .i64 k) := fun W h => hc1 W h 2 _ rfl
                    have y3 : ∀ W, Ext w5 W → W.cell? ⟨g1, k * 6 + 3, none⟩ = some (.float .f64 0) := fun W h => hc1 W h 3 _ rfl
                    have y4 : ∀ W, Ext w5 W → W.cell? ⟨g1, k * 6 + 4, none⟩ = some (.complex .f64 0 0) := fun W h => hc1 W h 4 _ rfl
                    have y5 : ∀ W, Ext w5 W → W.cell? ⟨g1, k * 6 + 5, none⟩ = some (str mine) := fun W h => hc1 W h 5 _ rfl
                    clear hc1
                    refine wp_region_rg Ext rel_ext (fun _ => True) [0, 1, 2, 3, 4, 5, 6, 7, 8, 9, 10, 11, 12, 13, 14, 15, 16, 17, 18, 19, 20, 21, 22, 23, 24, 25, 26, 27, 28] (fun _ => none) (fun _ => none) (fun _ => false) (by kernel_rfl) (by kernel_rfl) (fun _ _ _ _ => trivial) trivial (fun W N hW _ hN => ?_)
                    have hEW := hE6.trans hW
                    have e0 : ∀ w', Ext W w' → w'.cell? ⟨_, 0, none⟩ = some _ := fun w' h => cell_of_row _ _ _ _ _ _ ((hW.trans h).blk hb)
                    have e1 : ∀ w', Ext W w' → w'.cell? ⟨_, 1, none⟩ = some _ := fun w' h => cell_of_row _ _ _ _ _ _ ((hW.trans h).blk hb)
                    have e2 : ∀ w', Ext W w' → w'.cell? ⟨_, 2, none⟩ = some _ := fun w' h => cell_of_row _ _ _ _ _ _ ((hW.trans h).blk hb)
                    have e3 : ∀ w', Ext W w' → w'.cell? ⟨_, 3, none⟩ = some _ := fun w' h => cell_of_row _ _ _ _ _ _ ((hW.trans h).blk hb)
                    have e4 : ∀ w', Ext W w' → w'.cell? ⟨_, 4, none⟩ = some _ := fun w' h => cell_of_row _ _ _ _ _ _ ((hW.trans h).blk hb)
                    have e5 : ∀ w', Ext W w' → w'.cell? ⟨_, 5, none⟩ = some _ := fun w' h => cell_of_row _ _ _ _ _ _ ((hW.trans h).blk hb)
                    clear hb
                    repeat (first | (apply wpR_one; (case ho => (simp only [List.getElem?_toArray, List.getElem?_cons_succ, List.getElem?_cons_zero]; try exact rfl)); (case hw => rfl); (case hl => rfl); (case hsp => rfl); (case he => rfl); (case hv => (intro w' hw'; (try (have hw2 := Ext.trans hEW hw')); (try (have hw3 := Exc.trans hEW hw')); (try (have hw4 := Exk.trans hEW hw')); (try (have hw5 := Mrk.trans hEW hw')); go_simp; exact rfl)); (case hw0 => (first | exact Below.refl _ _ | exact Exc.of_ext (Below.refl _ _) | exact Exk.of_ext (Below.refl _ _) | exact Mrk.of_ext (Below.refl _ _))); simp only [Act.put, List.setIfInBounds_toArray, List.set_cons_succ, List.set_cons_zero]) | (apply wpR_early; (case ho => (simp only [List.getElem?_toArray, List.getElem?_cons_succ, List.getElem?_cons_zero]; try exact rfl)); (case hw => rfl); (case hl => rfl); (case hsp => rfl); (case he => rfl); (case hv => (intro w' hw'; (try have hw2 := Ext.trans hEW hw'); go_simp; exact rfl)); simp only [Act.put, List.setIfInBounds_toArray, List.set_cons_succ, List.set_cons_zero]) | (apply wpR_pass; (case ho => (simp only [List.getElem?_toArray, List.getElem?_cons_succ, List.getElem?_cons_zero]; try exact rfl)); (case hw => rfl); (case hl => rfl); simp only [Act.put, List.setIfInBounds_toArray, List.set_cons_succ, List.set_cons_zero]))
                    apply wpR_nil
                    apply hN
                    intro w' hE' hK _
                    have hE7 := hEW.trans hE'
                    clear hK hN x0 x1 x2 x3 x4 x5 y0 y1 y2 y3 y4 y5 e0 e1 e2 e3 e4 e5 hW hE6 hEW hE' hnq
                    go_wp2
                    go_roundw
                    case rel => exact ⟨k + 1, by omega, by go_num, hE7⟩
                    case measure => simp [intOf]; omega
                  · refine wp_region_rg Ext rel_ext (fun _ => True) [0, 1, 2, 3, 4, 5, 6, 7, 8, 9, 10, 11, 12, 13, 14, 15, 16, 17, 18, 19, 20, 21, 22, 23, 24, 25, 26, 27, 28] (fun _ => none) (fun _ => none) (fun _ => false) (by kernel_rfl) (by kernel_rfl) (fun _ _ _ _ => trivial) trivial (fun W N hW _ hN => ?_)
                    have hEW := hE6.trans hW
                    have e0 : ∀ w', Ext W w' → w'.cell? ⟨_, 0, none⟩ = some _ := fun w' h => cell_of_row _ _ _ _ _ _ ((hW.trans h).blk hb)
                    have e1 : ∀ w', Ext W w' → w'.cell? ⟨_, 1, none⟩ = some _ := fun w' h => cell_of_row _ _ _ _ _ _ ((hW.trans h).blk hb)
                    have e2 : ∀ w', Ext W w' → w'.cell? ⟨_, 2, none⟩ = some _ := fun w' h => cell_of_row _ _ _ _ _ _ ((hW.trans h).blk hb)
                    have e3 : ∀ w', Ext W w' → w'.cell? ⟨_, 3, none⟩ = some _ := fun w' h => cell_of_row _ _ _ _ _ _ ((hW.trans h).blk hb)
                    have e4 : ∀ w', Ext W w' → w'.cell? ⟨_, 4, none⟩ = some _ := fun w' h => cell_of_row _ _ _ _ _ _ ((hW.trans h).blk hb)
                    have e5 : ∀ w', Ext W w' → w'.cell? ⟨_, 5, none⟩ = some _ := fun w' h => cell_of_row _ _ _ _ _ _ ((hW.trans h).blk hb)
                    clear hb
                    repeat (first | (apply wpR_one; (case ho => (simp only [List.getElem?_toArray, List.getElem?_cons_succ, List.getElem?_cons_zero]; try exact rfl)); (case hw => rfl); (case hl => rfl); (case hsp => rfl); (case he => rfl); (case hv => (intro w' hw'; (try (have hw2 := Ext.trans hEW hw')); (try (have hw3 := Exc.trans hEW hw')); (try (have hw4 := Exk.trans hEW hw')); (try (have hw5 := Mrk.trans hEW hw')); go_simp; exact rfl)); (case hw0 => (first | exact Below.refl _ _ | exact Exc.of_ext (Below.refl _ _) | exact Exk.of_ext (Below.refl _ _) | exact Mrk.of_ext (Below.refl _ _))); simp only [Act.put, List.setIfInBounds_toArray, List.set_cons_succ, List.set_cons_zero]) | (apply wpR_early; (case ho => (simp only [List.getElem?_toArray, List.getElem?_cons_succ, List.getElem?_cons_zero]; try exact rfl)); (case hw => rfl); (case hl => rfl); (case hsp => rfl); (case he => rfl); (case hv => (intro w' hw'; (try have hw2 := Ext.trans hEW hw'); go_simp; exact rfl)); simp only [Act.put, List.setIfInBounds_toArray, List.set_cons_succ, List.set_cons_zero]) | (apply wpR_pass; (case ho => (simp only [List.getElem?_toArray, List.getElem?_cons_succ, List.getElem?_cons_zero]; try exact rfl)); (case hw => rfl); (case hl => rfl); simp only [Act.put, List.setIfInBounds_toArray, List.set_cons_succ, List.set_cons_zero]))
                    apply wpR_nil
                    apply hN
                    intro w' hE' hK _
                    have hE7 := hEW.trans hE'
                    clear hK hN x0 x1 x2 x3 x4 x5 e0 e1 e2 e3 e4 e5 hW hE6 hEW hE' hnq
                    go_wp2
                    go_roundw
                    case rel => exact ⟨k + 1, by omega, by go_num, hE7⟩
                    case measure => simp [intOf]; omega
                · obtain rfl : k = N + 16 := by omega
                  go_wp2
                  go_roundw
                  case rel => exact ⟨i + 1, by omega, by go_num, hE5⟩
                  case measure => simp [intOf]; omega
            · obtain rfl : i = hs.length := by omega
              go_wp2
              go_ret
              exact ⟨rfl, hE.trans (Exc.of_ext hE5)⟩
end Go.Proofs.Ytbjfgnkjmfcokaa
