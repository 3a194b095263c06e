/- The contract of the document's Apart over lists of bytes. No condition but that the lists are rows of the caller's own that lie apart. -/
import Derived.Test.YtijlaknfagpglaaAparw
import Derived.Test.YtijlaknfagpglaaOwnb
import Derived.Test.YtijlaknfagpglaaRefa
namespace Go.Proofs.Ytijlaknfagpglaa
open Go.RowKit Go.Proofs
set_option linter.unusedVariables false
theorem infoSlB : (Try.prog.info? 22).map (fun i => (i.zero, i.size, i.bytes)) = some (some (.slice none 0 0), 1, 24) := by kernel_rfl
abbrev mkB (i k : Nat) : List Value := [.int .u8 (((i : Int) * 31 + (k : Int) * 7 + 1) % 256)]
theorem len_mkB (i k : Nat) : (mkB i k).length = 1 := rfl
set_option maxRecDepth 100000 in
set_option maxHeartbeats 2000000 in
theorem rapart_any {hs : List Hd} {gl cl B : Nat} {cur : Array Value} {fr : Nat × Nat} {w : World} (hhd : w.heap[gl]? = some (.cells cur 22 fr)) (hcur : ∀ (j : Nat) (h : Hd), hs[j]? = some h → cur[j]? = some h.v) (hl : hs.length ≤ 1073741824) (hlc : hs.length ≤ cl)
    (hkk : ∀ h ∈ hs, h.k ≤ 140737488355308) (hB : B ≤ w.heap.size) (hA : ApartH hs) (hR : ∀ (j : Nat) (h : Hd), hs[j]? = some h → ∃ xs, w.ownsRow B 5 1 h.v h.k xs) :
    Calls Try.prog 41 #[.slice (some ⟨gl, 0, none⟩) hs.length cl] w fun e w' => e = .returned (.bool true) ∧ Exc (fun q _ => B ≤ q) w w' := by
  obtain ⟨i0, hi, hz0, hz1, hz2⟩ := info_parts infoU8
  obtain ⟨i1, hi1, hy0, hy1, hy2⟩ := info_parts infoSlB
  have hgl := (Array.getElem?_eq_some_iff.1 hhd).1
  have HC := Lib.hid hcur
  have HK := Lib.hid hkk
  have hM0 : Marked 5 1 B mkB hs 0 0 w := Marked.start hR
  clear hcur hkk hR
  go_enter Try.func41, Try.ntmps41
  go_wp2
  go_loopw [3] (fun ii wr => ∃ i : Nat, i ≤ hs.length ∧ ii = .int .i64 i ∧ Marked 5 1 B mkB hs i 0 wr ∧ wr.heap[gl]? = some (.cells cur 22 fr) ∧ Exc (fun q _ => B ≤ q) w wr) (fun ii _ => hs.length - (intOf ii).toNat)
  case atStart => exact ⟨0, Nat.zero_le _, rfl, hM0, hhd, exc_refl _ _⟩
  case round =>
    clear hM0 hhd
    obtain ⟨i, hi', rfl, hM, hhd, hE⟩ := hrel
    by_cases hlt : i < hs.length
    · obtain ⟨h, hh⟩ : ∃ h, hs[i]? = some h := ⟨_, List.getElem?_eq_getElem hlt⟩
      have hk0 := HK.out h (List.mem_of_getElem? hh)
      have hic : i < cl := by omega
      obtain ⟨A, N, c⟩ := h
      simp only at hk0
      have HH := Lib.hid hh
      have hq : wr.cell? ⟨gl, i, none⟩ = some (.slice A N c) := by rw [cell_of_row wr gl i cur _ _ hhd]; exact HC.out i _ hh
      clear hh
      go_wp2
      clear hq
      go_loopw [4] (fun kk wr => ∃ k : Nat, k ≤ N ∧ kk = .int .i64 k ∧ Marked 5 1 B mkB hs i k wr ∧ wr.heap[gl]? = some (.cells cur 22 fr) ∧ Exc (fun q _ => B ≤ q) w wr) (fun kk _ => N - (intOf kk).toNat)
      case atStart => exact ⟨0, Nat.zero_le _, rfl, hM, hhd, hE⟩
      case round =>
        clear hM hhd hE
        obtain ⟨k, hk', rfl, hM, hhd, hE⟩ := hrel
        have hq : wr.cell? ⟨gl, i, none⟩ = some (.slice A N c) := by rw [cell_of_row wr gl i cur _ _ hhd]; exact HC.out i _ HH.out
        by_cases hltk : k < N
        · obtain ⟨g, xs, hg, hBg, ho, hp⟩ := hM.row HH.out hltk
          simp only at hg ho
          subst hg
          obtain ⟨u, hu⟩ : ∃ u, xs[k]? = some u := ⟨_, List.getElem?_eq_getElem (show k < xs.length by rw [ho.1]; omega)⟩
          have hci : wr.cell? ⟨g, k, none⟩ = some u := by rw [World.ownsRow.cellAt ho k (by omega), hu]
          have hfz := World.ownsRow.frozenAt ho k
          obtain ⟨ho3, hg3⟩ := own_stored ho hltk (len_mkB i k)
          rw [show wr.setCells g (k * 1) (mkB i k) = wr.setCell ⟨g, k, none⟩ (.int .u8 (((i : Int) * 31 + (k : Int) * 7 + 1) % 256)) by rw [Nat.mul_one]; rfl] at ho3 hg3
          clear hu
          go_wp2
          have hM3 := hM.stored len_mkB hA HH.out hltk rfl hp ho3 hg3
          have hne : gl ≠ g := fun e => own_not ho hhd (by decide) (by rw [e]; rfl)
          have hhd3 := blk_other hhd hg3 hne
          have hE3 := hE.trans (Exc.of_only hg3 (fun _ _ => hBg))
          go_roundw
          case rel => exact ⟨k + 1, by omega, by go_num, hM3, hhd3, hE3⟩
          case measure => simp [intOf]; omega
        · obtain rfl : k = N := by omega
          have hM3 := hM.next HH.out rfl
          go_wp2
          go_roundw
          case rel => exact ⟨i + 1, by omega, by go_num, hM3, hhd, hE⟩
          case measure => simp [intOf]; omega
    · obtain rfl : i = hs.length := by omega
      have hG0 : Grown 5 1 B mkB 20 hs [] wr := Grown.start (hM.done (Nat.le_refl _))
      clear hM
      go_wp2
      go_loopw [5, 6] (fun gv ii wr => ∃ (i : Nat) (gs : List Hd) (Ag : Option Addr) (cg : Nat), i ≤ hs.length ∧ ii = .int .i64 i ∧ gv = .slice Ag i cg ∧ gs.length = i ∧ Grown 5 1 B mkB 20 hs gs wr ∧ wr.ownsRow w.heap.size 22 1 (.slice Ag i cg) i (gs.map Hd.v) ∧ wr.heap[gl]? = some (.cells cur 22 fr) ∧ Exc (fun q _ => B ≤ q) w wr) (fun _ ii _ => hs.length - (intOf ii).toNat)
      case atStart => exact ⟨0, [], none, 0, Nat.zero_le _, rfl, rfl, rfl, hG0, World.ownsRow_nil _ _ _ _, hhd, hE⟩
      case round =>
        clear hG0 hhd hE
        obtain ⟨i, gs, Ag, cg, hi', rfl, rfl, hgl', hG, hog, hhd, hE⟩ := hrel
        have HGL := Lib.hid hgl'
        clear hgl'
        by_cases hlt : i < hs.length
        · obtain ⟨h, hh⟩ : ∃ h, hs[i]? = some h := ⟨_, List.getElem?_eq_getElem hlt⟩
          have hk0 := HK.out h (List.mem_of_getElem? hh)
          have hic : i < cl := by omega
          have hS := Growing.start hA hG HGL.out hh
          obtain ⟨A, N, c⟩ := h
          simp only at hk0
          have HH := Lib.hid hh
          have hq : wr.cell? ⟨gl, i, none⟩ = some (.slice A N c) := by rw [cell_of_row wr gl i cur _ _ hhd]; exact HC.out i _ hh
          clear hh hG
          go_wp2
          clear hq
          go_loopw [7, 8] (fun gv kk wr => ∃ (t : Nat) (A' : Option Addr) (c' : Nat), t ≤ 20 ∧ kk = .int .i64 t ∧ gv = .slice A' (N + t) c' ∧ Growing 5 1 B mkB 20 hs gs i t (.slice A' (N + t) c') wr ∧ wr.ownsRow w.heap.size 22 1 (.slice Ag i cg) i (gs.map Hd.v) ∧ wr.heap[gl]? = some (.cells cur 22 fr) ∧ Exc (fun q _ => B ≤ q) w wr) (fun _ kk _ => 20 - (intOf kk).toNat)
          case atStart => exact ⟨0, A, c, by omega, rfl, rfl, hS, hog, hhd, hE⟩
          case round =>
            clear hS hog hhd hE
            obtain ⟨t, A', c', ht, rfl, rfl, hS, hog, hhd, hE⟩ := hrel
            have hq : wr.cell? ⟨gl, i, none⟩ = some (.slice A N c) := by rw [cell_of_row wr gl i cur _ _ hhd]; exact HC.out i _ HH.out
            have hsz := hE.size
            by_cases hlt16 : t < 20
            · have hBw : B ≤ wr.heap.size := by omega
              go_wp2_with (at_builtin; refine wpList_append_apart rfl _ _ 22 rfl B 5 i0 (.int .u8 0) 1 1 Try.underlying22 hi hz0 hz1 hz2 rfl (by decide) _ (N + t) _ rfl ((hS.keep (KeepR.of_ext (ext_alloc wr _))).cur _ HH.out).1 ⟨wr.heap.size, 0, none⟩ 1 1 [.int .u8 (((i : Int) * 31 + ((N : Int) + (t : Int)) * 7 + 1) % 256)] rfl rfl (cell_one_new _ _ _) (by simp [Value.oneCell']) (by decide) (by simp [maxLen]; omega) (by omega) (by simp; omega) ?_; intro v' w3 ho3 hc3)
              have e1 : [Value.int .u8 (((i : Int) * 31 + ((N : Int) + (t : Int)) * 7 + 1) % 256)] = mkB i (N + t) := by simp [mkB]
              rw [e1] at ho3
              clear e1
              obtain ⟨row, hg3, hr3⟩ := grown_row ((hS.keep (KeepR.of_ext (ext_alloc wr _))).cur _ HH.out).1 hc3
              have hS3 := (hS.keep (KeepR.of_ext (ext_alloc wr _))).push len_mkB HH.out ho3 hc3
              have hog3 := keep_row hg3 hr3 (by decide) _ _ _ (hog.alloc _)
              have hhd3 := blk_kept hg3 hr3 ((ext_alloc wr _).blk hhd) (by decide)
              have hE3 := (hE.trans (Exc.of_ext (ext_alloc wr _))).trans (exc_kept hg3 hr3)
              obtain ⟨A3, c3, rfl⟩ := slice_of_own ho3
              clear hg3 hr3 ho3 hc3 hS hog hhd hE hq
              go_wp2
              go_roundw
              case rel => exact ⟨t + 1, A3, c3, by omega, by go_num, rfl, hS3, hog3, hhd3, hE3⟩
              case measure => simp [intOf]; omega
            · obtain rfl : t = 20 := by omega
              have hD := hS.done len_mkB HH.out rfl
              clear hS hq
              go_wp2_with (at_builtin; refine wpList_append_own _ rfl _ _ 55 rfl w.heap.size 22 i1 (.slice none 0 0) 1 24 Try.underlying55 hi1 hy0 hy1 hy2 rfl (by decide) _ _ _ rfl (hog.alloc _) ⟨wr.heap.size, 0, none⟩ 1 1 [.slice A' (N + 20) c'] rfl rfl (cell_one_new _ _ _) (by simp [Value.oneCell']) (by simp [maxLen]; omega) (by omega) (by simp; omega) ?_; intro v' w3 ho3 hg3 _)
              have hr3 : ∀ q, (Value.slice Ag i cg).ownBlock = some q → w.heap.size ≤ q ∧ ∃ cs, (wr.alloc (Obj.cells #[.slice A' (N + 20) c'] 22)).heap[q]? = some (.cells cs 22 (0, 0)) := fun q hq => own_blk (hog.alloc _) hq
              have hD3 := (hD.keep (KeepR.of_ext (ext_alloc wr _))).keep (keep_row hg3 hr3 (by decide))
              have hhd3 : w3.heap[gl]? = some (.cells cur 22 fr) := (hg3.block gl (by simp; omega) (fun he => by have := (hr3 gl he.symm).1; omega)).trans ((ext_alloc wr _).blk hhd)
              have hE3 := (hE.trans (Exc.of_ext (ext_alloc wr _))).trans (Exc.of_grown (D := fun q _ => B ≤ q) hg3 (fun g o h1 _ => by have := (hr3 g h1).1; omega))
              obtain ⟨A3, c3, rfl⟩ := slice_of_own ho3
              clear hg3 hr3 hog hhd hE hD
              go_wp2
              go_roundw
              case rel => exact ⟨i + 1, gs ++ [⟨A', N + 20, c'⟩], A3, c3, by omega, by go_num, rfl, by simp [HGL.out], hD3, by rw [List.map_append]; exact ho3, hhd3, hE3⟩
              case measure => simp [intOf]; omega
        · obtain rfl : i = hs.length := by omega
          obtain ⟨w5, h5⟩ : ∃ W, W = wr := ⟨_, rfl⟩
          subst h5
          clear hi hz0 hz1 hz2 hi1 hy0 hy1 hy2
          go_wp2
          go_loopw [9] (fun ii W => ∃ i : Nat, i ≤ hs.length ∧ ii = .int .i64 i ∧ Ext w5 W) (fun ii _ => hs.length - (intOf ii).toNat)
          case atStart => exact ⟨0, Nat.zero_le _, rfl, Below.refl _ _⟩
          case round =>
            obtain ⟨i, hi', rfl, hE5⟩ := hrel
            by_cases hlt : i < hs.length
            · obtain ⟨h, hh⟩ : ∃ h, hs[i]? = some h := ⟨_, List.getElem?_eq_getElem hlt⟩
              obtain ⟨h2, hh2⟩ : ∃ h, gs[i]? = some h := ⟨_, List.getElem?_eq_getElem (show i < gs.length by have := HGL.out; omega)⟩
              have hk0 := HK.out h (List.mem_of_getElem? hh)
              have hic : i < cl := by omega
              have hold := hG.old i h hh
              obtain ⟨hkk, hnew⟩ := hG.new i h h2 hh hh2
              obtain ⟨gg, capg, hvg, _⟩ := World.ownsRow.form hog (by omega)
              injection hvg with hAg _ hcg
              subst hAg
              obtain ⟨A, N, c⟩ := h
              obtain ⟨A2, N2, c2⟩ := h2
              simp only at hk0 hkk
              subst hkk
              have hcg2 : i < cg := by
                rcases hog.2 with ⟨hx, _⟩ | ⟨_, cap, _, hx, _, _, hle, _⟩
                · cases hx
                · injection hx with _ _ hx
                  omega
              clear hcg
              have q1 : ∀ W, Ext w5 W → W.cell? ⟨gl, i, none⟩ = some (.slice A N c) := fun W h => by rw [cell_of_row W gl i cur _ _ (h.blk hhd)]; exact HC.out i _ hh
              have q2 : ∀ W, Ext w5 W → W.cell? ⟨gg, i, none⟩ = some (.slice A2 (N + 20) c2) := fun W h => by
                rw [World.ownsRow.cellAt (own_ext hog h) i (by omega)]
                simp [hh2]
              clear hh hh2
              have q2r := q2 wr hE5
              go_wp2
              clear q2r
              go_loopw [10] (fun kk W => ∃ k : Nat, k ≤ N + 20 ∧ kk = .int .i64 k ∧ Ext w5 W) (fun kk _ => N + 20 - (intOf kk).toNat)
              case atStart => exact ⟨0, Nat.zero_le _, rfl, hE5⟩
              case round =>
                clear hE5
                obtain ⟨k, hk', rfl, hE5⟩ := hrel
                have q2r := q2 wr hE5
                by_cases hltk : k < N + 20
                · obtain ⟨g2, hA2, _, _⟩ := own_at len_mkB hnew hltk
                  simp only at hA2
                  subst hA2
                  have x0 : wr.cell? ⟨g2, k, none⟩ = some (.int .u8 (((i : Int) * 31 + (k : Int) * 7 + 1) % 256)) := by
                    have := own_cell len_mkB (own_ext hnew hE5 : World.ownsRow wr _ _ _ _ _ _) hltk 0 _ rfl
                    rwa [Nat.mul_one] at this
                  have q1r := q1 wr hE5
                  by_cases hltN : k < N
                  · obtain ⟨g1, hA1, _, _⟩ := own_at len_mkB hold hltN
                    simp only at hA1
                    subst hA1
                    have y0 : wr.cell? ⟨g1, k, none⟩ = some (.int .u8 (((i : Int) * 31 + (k : Int) * 7 + 1) % 256)) := by
                      have := own_cell len_mkB (own_ext hold hE5 : World.ownsRow wr _ _ _ _ _ _) hltN 0 _ rfl
                      rwa [Nat.mul_one] at this
                    go_wp2
                    go_roundw
                    case rel => exact ⟨k + 1, by omega, by go_num, hE5⟩
                    case measure => simp [intOf]; omega
                  · go_wp2
                    go_roundw
                    case rel => exact ⟨k + 1, by omega, by go_num, hE5⟩
                    case measure => simp [intOf]; omega
                · obtain rfl : k = N + 20 := by omega
                  go_wp2
                  go_roundw
                  case rel => exact ⟨i + 1, by omega, by go_num, hE5⟩
                  case measure => simp [intOf]; omega
            · obtain rfl : i = hs.length := by omega
              go_wp2
              go_ret
              exact ⟨rfl, hE.trans (Exc.of_ext hE5)⟩
end Go.Proofs.Ytijlaknfagpglaa
