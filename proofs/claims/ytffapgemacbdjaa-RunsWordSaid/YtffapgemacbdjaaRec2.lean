/- Layer 5: the document's Add, Copy, Same, First. No condition. -/
import Derived.Test.YtffapgemacbdjaaReb2
namespace Go.Proofs.Ytffapgemacbdjaa
open Go.RowKit Go.Proofs Go.Shelf
set_option linter.unusedVariables false
attribute [local go_sem] Oper.semAt_some
theorem setCell_excr (w : World) (g i : Nat) (v : Value) : Exc (fun q _ => q = g) w (w.setCell ⟨g, i, none⟩ v) :=
  ⟨rfl, rfl, rfl, by simp [World.setCell], fun k o hk hn => (Below.heap_setCell w _ v k (fun e => hn e)).trans hk⟩
theorem bdr_join : ∀ a b : Rn, Bdr a → Bdr b → Bdr ⟨min a.lo b.lo, max a.hi b.hi⟩ := fun a b h1 h2 => by
  obtain ⟨⟨a1, a2⟩, a3, a4⟩ := h1
  obtain ⟨⟨b1, b2⟩, b3, b4⟩ := h2
  exact ⟨⟨by simp only; omega, by simp only; omega⟩, by simp only; omega, by simp only; omega⟩
theorem addL_bdr {L : List Rn} {r : Rn} (h : ∀ x ∈ L, Bdr x) (hr : Bdr r) : ∀ x ∈ addL L r, Bdr x :=
  norm_bd bdr_join [r] L h (fun x hx => by rcases List.mem_cons.1 hx with rfl | hx; exact hr; cases hx)
theorem cnt_add {L : List Rn} {lo hi : Int} (hw : WfR L) (hb : ∀ r ∈ L, Bdr r) (hr : Bdr ⟨lo, hi⟩) : 0 ≤ cnt (addL L ⟨lo, hi⟩) - cnt L ∧ addN L ⟨lo, hi⟩ = cnt (addL L ⟨lo, hi⟩) - cnt L := by
  by_cases h : lo ≤ hi
  · obtain ⟨⟨a1, a2⟩, a3, a4⟩ := hr
    simp only at a1 a2 a3 a4
    obtain ⟨e, _⟩ := add_cnt hw (inb_of_bd hb) h (by omega) (by omega) (by decide)
    have e2 : addN L ⟨lo, hi⟩ = (gapsL (withinL L ⟨lo, hi⟩) ⟨lo, hi⟩).foldl withZ 0 := if_pos h
    rw [e2, e]
    refine ⟨?_, rfl⟩
    rw [← e]
    obtain ⟨g1, g2, g3⟩ := gaps_wf (withinL L ⟨lo, hi⟩) lo hi (within_wf _ hw) (fun x hx => by
      obtain ⟨m1, m2, m3, _⟩ := within_mem hx
      exact ⟨m2, m3⟩) h
    have hbG : InB (-32768) 4295000064 (gapsL (withinL L ⟨lo, hi⟩) ⟨lo, hi⟩) := fun g hg => by have := g2 g hg; omega
    rw [len_cnt g1 hbG (by decide)]
    exact cnt_nonneg (fun r hr => g1.each r hr)
  · have e1 : addL L ⟨lo, hi⟩ = L := if_neg h
    have e2 : addN L ⟨lo, hi⟩ = 0 := if_neg h
    rw [e1, e2]
    omega
set_option maxRecDepth 100000 in
set_option maxHeartbeats 2000000 in
theorem radd_any {B p c : Nat} {A : Option Addr} {L : List Rn} {lo hi : Int} {w : World} (hS : SetAtr B p A c w L) (hl : L.length ≤ 100000) (hb : Bdr ⟨lo, hi⟩) (hBw : B ≤ w.heap.size) :
    Calls Try.prog 60 #[.pointer (some ⟨p, 0, none⟩), .int .i64 lo, .int .i64 hi] w fun e w' => ∃ A' c', e = .returned (.int .i64 (addN L ⟨lo, hi⟩)) ∧ SetAtr B p A' c' w' (addL L ⟨lo, hi⟩) ∧ Exc (fun q _ => q = p) w w' := by
  obtain ⟨i0, hi0, hz0, hzz1, hzz2⟩ := info_parts infoRr
  obtain ⟨hd1, hd2⟩ := cnt_add hS.wf hS.bd hb
  have hwf2 := (addL_ok hS.wf ⟨lo, hi⟩).1
  have hbd2 := addL_bdr hS.bd hb
  have hlen2 := addL_len L ⟨lo, hi⟩
  have hns := norm_snoc hS.wf ⟨lo, hi⟩
  have hcb1 := cnt_bd hS.wf hS.bd
  have hcb2 := cnt_bd hwf2 hbd2
  obtain ⟨L2, hL2⟩ : ∃ L2, addL L ⟨lo, hi⟩ = L2 := ⟨_, rfl⟩
  rw [hL2] at hd1 hd2 hwf2 hbd2 hlen2 hns hcb2 ⊢
  rw [hd2]
  have HNS := Lib.hid hns
  clear hd2 hL2 hns
  have q1 := cell_of_row w p 0 _ _ _ hS.hd
  simp only [List.getElem?_toArray, List.getElem?_cons_zero] at q1
  have hplt := (Array.getElem?_eq_some_iff.1 hS.hd).1
  go_enter Try.func60, Try.ntmps60
  go_wp2_with fail
  refine (many_any hS.row hS.wf hS.bd (by omega)).mono ?_
  rintro e w1 ⟨rfl, hE1⟩
  clear q1
  go_wp2
  go_loopw [9, 10] (fun va iv wr => ∃ (k : Nat) (A1 : Option Addr) (c1 : Nat) (M : List Rn), k ≤ L.length ∧ iv = .int .i64 k ∧ va = .slice A1 M.length c1 ∧ Hid (M = L.take k) ∧ M.length ≤ k ∧ RowRr w.heap.size wr A1 c1 M ∧ Ext w wr) (fun _ iv _ => L.length - (intOf iv).toNat)
  case atStart => exact ⟨0, none, 0, [], Nat.zero_le _, rfl, rfl, Lib.hid rfl, Nat.le_refl _, World.ownsRow_nil _ _ _ _, hE1⟩
  case round =>
    obtain ⟨k, A1, c1, M, hk, rfl, rfl, HM, hml, ho1, hE⟩ := hrel
    have q1 := cell_of_row wr p 0 _ _ _ (hS.ext hE).hd
    simp only [List.getElem?_toArray, List.getElem?_cons_zero] at q1
    have hszr := hE.size
    by_cases hlt : k < L.length
    · obtain ⟨x, hx⟩ : ∃ x, L[k]? = some x := ⟨_, List.getElem?_eq_getElem hlt⟩
      obtain ⟨g, rfl, hkc, hcx⟩ := (hS.row.ext hE).read hx
      have hts : L.take (k + 1) = M ++ [x] := by
        obtain ⟨h1, rfl⟩ := List.getElem?_eq_some_iff.1 hx
        rw [List.take_succ_eq_append_getElem h1, ← HM.out]
      have HM2 : Hid (M ++ [x] = L.take (k + 1)) := Lib.hid hts.symm
      obtain ⟨xl, xh⟩ := x
      have y0 := (hcx wr (Below.refl _ _)).1
      have y1 := (hcx wr (Below.refl _ _)).2
      clear hcx hx hts HM
      go_wp2_with (at_builtin; refine wpList_append_apart rfl _ _ 22 rfl w.heap.size 26 i0 _ 2 16 Try.underlying22 hi0 hz0 hzz1 hzz2 rfl (by decide) _ M.length _ rfl (own_ext ho1 (ext_alloc _ _)) ⟨wr.heap.size, 0, none⟩ 1 1 [.int .i64 xl, .int .i64 xh] rfl rfl (news_row wr _ _ _) (roner [⟨xl, xh⟩]) (by decide) (by unfold maxLen; omega) (by omega) (by simp; omega) ?_; intro v' w3 ho3 hc3)
      obtain ⟨A3, c3, rfl, o3, hx3⟩ := push1r (x := ⟨xl, xh⟩) (own_ext ho1 (ext_alloc _ _)) ho3 hc3
      have hE3 := hx3.to_ext (hE.trans (ext_alloc _ _)) (fun q o h => h.1)
      clear ho3 hc3 hx3 ho1
      go_wp2
      go_roundw
      case rel => exact ⟨k + 1, A3, c3, M ++ [⟨xl, xh⟩], by omega, by go_num, by simp, HM2, by simp; omega, o3, hE3⟩
      case measure => simp [intOf]; omega
    · obtain rfl : k = L.length := by omega
      obtain rfl : M = L := by have := HM.out; rwa [List.take_length] at this
      clear HM
      go_wp2_with (at_builtin; refine wpList_append_apart rfl _ _ 22 rfl w.heap.size 26 i0 _ 2 16 Try.underlying22 hi0 hz0 hzz1 hzz2 rfl (by decide) _ M.length _ rfl (own_ext ho1 (ext_alloc _ _)) ⟨wr.heap.size, 0, none⟩ 1 1 [.int .i64 lo, .int .i64 hi] rfl rfl (news_row wr _ _ _) (roner [⟨lo, hi⟩]) (by decide) (by unfold maxLen; omega) (by omega) (by simp; omega) ?_; intro v' w3 ho3 hc3)
      obtain ⟨A3, c3, rfl, o3, hx3⟩ := push1r (x := ⟨lo, hi⟩) (own_ext ho1 (ext_alloc _ _)) ho3 hc3
      have hE3 := hx3.to_ext (hE.trans (ext_alloc _ _)) (fun q o h => h.1)
      have HN := norm_any (w := w3) o3 (fun r hr => by
        rcases List.mem_append.1 hr with hr | hr
        · exact hS.bd r hr
        · rcases List.mem_cons.1 hr with rfl | hr
          · exact hb
          · cases hr) (by simp; omega)
      rw [List.length_append, HNS.out] at HN
      clear ho3 hc3 hx3 ho1
      refine HN.mono ?_
      rintro e w4 ⟨A4, c4, rfl, o4, hE4⟩
      have hEw := hE3.trans hE4
      have hsz3 := hE3.size
      have hp4 := (hS.ext hEw).hd
      have k0 := cell_of_row w4 p 0 _ _ _ hp4
      have k1 := frozen_of_row w4 p 0 _ _ hp4
      simp only [List.getElem?_toArray, List.getElem?_cons_zero] at k0
      have hp5 := heap_setCell_same w4 p 0 _ _ (.slice A4 L2.length c4) hp4
      have hx5 := (Exc.of_ext hEw (D := fun q _ => q = p)).trans (setCell_excr w4 p 0 (.slice A4 L2.length c4))
      have o5 := own_exc o4 (setCell_excr w4 p 0 (.slice A4 L2.length c4)) (fun q cs h1 h2 => by omega)
      have hS5 : SetAtr B p A4 c4 (w4.setCell ⟨p, 0, none⟩ (.slice A4 L2.length c4)) L2 := ⟨hp5, own_mono o5 (by omega), hwf2, hbd2⟩
      have k2 := cell_of_row _ p 0 _ _ _ hp5
      simp only [List.getElem?_toArray, List.setIfInBounds_toArray, List.set_cons_zero, List.getElem?_cons_zero] at k2
      clear HN q1 hE3 hE4 hp4
      go_wp2_with fail
      refine (many_any hS5.row hS5.wf hS5.bd (by omega)).mono ?_
      rintro e w6 ⟨rfl, hE6⟩
      have hw0 : IntKind.u64.wrap (cnt L2 - cnt M) = cnt L2 - cnt M := by rw [IntKind.wrap_u64]; omega
      clear k2
      go_wp2_with fail
      refine (told_any (n := cnt L2 - cnt M) ⟨hd1, by omega⟩).mono ?_
      rintro e w7 ⟨rfl, rfl⟩
      go_wp2
      go_ret
      exact ⟨A4, c4, rfl, hS5.ext hE6, hx5.trans (Exc.of_ext hE6)⟩
end Go.Proofs.Ytffapgemacbdjaa
