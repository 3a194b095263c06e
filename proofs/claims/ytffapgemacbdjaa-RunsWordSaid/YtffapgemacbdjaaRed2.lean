/- Layer 5: the document's Remove. No condition. -/
import Derived.Test.YtffapgemacbdjaaRec2
namespace Go.Proofs.Ytffapgemacbdjaa
open Go.RowKit Go.Proofs Go.Shelf
set_option linter.unusedVariables false
attribute [local go_sem] Oper.semAt_some
theorem remA_bdr {L : List Rn} {lo hi : Int} (h : ∀ x ∈ L, Bdr x) (hr : Bdr ⟨lo, hi⟩) : ∀ x ∈ remA L lo hi, Bdr x := by
  obtain ⟨⟨b1, b2⟩, b3, b4⟩ := hr
  simp only at b1 b2 b3 b4
  unfold remA
  split
  · refine remL_mem (Q := fun r => Bdr r ∧ True) (fun x hx => ⟨h x hx, trivial⟩) (fun x hq hlt => ?_) (fun x hq hlt => ?_) |> fun h y hy => (h y hy).1
    · obtain ⟨⟨⟨a1, a2⟩, a3, a4⟩, _⟩ := hq
      exact ⟨⟨⟨a1, a2⟩, by simp only; omega, by simp only; omega⟩, trivial⟩
    · obtain ⟨⟨⟨a1, a2⟩, a3, a4⟩, _⟩ := hq
      exact ⟨⟨⟨by simp only; omega, by simp only; omega⟩, a3, a4⟩, trivial⟩
  · exact h
theorem remA_wf {L : List Rn} (hw : WfR L) (lo hi : Int) : WfR (remA L lo hi) := by
  unfold remA
  split
  · exact (remL_ok hw lo hi ‹_›).1
  · exact hw
theorem remA_len (L : List Rn) (lo hi : Int) : (remA L lo hi).length ≤ 2 * L.length := by
  unfold remA
  split
  · exact remL_len L lo hi
  · omega
theorem cnt_rem {L : List Rn} {lo hi : Int} (hw : WfR L) (hb : ∀ r ∈ L, Bdr r) : 0 ≤ cnt L - cnt (remA L lo hi) ∧ remN L lo hi = cnt L - cnt (remA L lo hi) := by
  by_cases h : lo ≤ hi
  · have e1 : remA L lo hi = remL L lo hi := if_pos h
    have e2 : remN L lo hi = (withinL L ⟨lo, hi⟩).foldl withZ 0 := if_pos h
    obtain ⟨e, _⟩ := rem_cnt hw (inb_of_bd hb) h (by decide)
    rw [e1, e2, e]
    refine ⟨?_, rfl⟩
    rw [← e]
    have g1 := within_wf ⟨lo, hi⟩ hw
    have hbG : InB (-32768) 4295000064 (withinL L ⟨lo, hi⟩) := wf_inb g1 (fun y hy => inb_mem (inb_of_bd hb) ((within_num _ _ _).1 hy).1)
    rw [len_cnt g1 hbG (by decide)]
    exact cnt_nonneg (fun r hr => g1.each r hr)
  · have e1 : remA L lo hi = L := if_neg h
    have e2 : remN L lo hi = 0 := if_neg h
    rw [e1, e2]
    omega
theorem rrem_none {B p c : Nat} {A : Option Addr} {L : List Rn} {lo hi : Int} {w : World} (hS : SetAtr B p A c w L) (hle : ¬ lo ≤ hi) :
    Calls Try.prog 62 #[.pointer (some ⟨p, 0, none⟩), .int .i64 lo, .int .i64 hi] w fun e w' => e = .returned (.int .i64 0) ∧ w = w' := by
  have h : hi < lo := by omega
  go_enter Try.func62, Try.ntmps62
  go_wp2
  go_ret
  exact ⟨rfl, rfl⟩
set_option maxRecDepth 100000 in
set_option maxHeartbeats 4000000 in
theorem rrem_any {B p c : Nat} {A : Option Addr} {L : List Rn} {lo hi : Int} {w : World} (hS : SetAtr B p A c w L) (hl : L.length ≤ 100000) (hb : Bdr ⟨lo, hi⟩) (hBw : B ≤ w.heap.size) :
    Calls Try.prog 62 #[.pointer (some ⟨p, 0, none⟩), .int .i64 lo, .int .i64 hi] w fun e w' => ∃ A' c', e = .returned (.int .i64 (remN L lo hi)) ∧ SetAtr B p A' c' w' (remA L lo hi) ∧ Exc (fun q _ => q = p) w w' := by
  by_cases hle : lo ≤ hi
  case neg =>
    have e1 : remN L lo hi = 0 := if_neg hle
    have e2 : remA L lo hi = L := if_neg hle
    rw [e1, e2]
    refine (rrem_none hS hle).mono ?_
    rintro e w' ⟨rfl, rfl⟩
    exact ⟨A, c, rfl, hS, exc_refl _ _⟩
  obtain ⟨i0, hi0, hz0, hzz1, hzz2⟩ := info_parts infoRr
  obtain ⟨hd1, hd2⟩ := cnt_rem (lo := lo) (hi := hi) hS.wf hS.bd
  have hwf2 := remA_wf hS.wf lo hi
  have hbd2 := remA_bdr hS.bd hb
  have hcb1 := cnt_bd hS.wf hS.bd
  have hcb2 := cnt_bd hwf2 hbd2
  have hra : remA L lo hi = remL L lo hi := if_pos hle
  rw [hd2, hra]
  rw [hra] at hd1 hwf2 hbd2 hcb2
  obtain ⟨⟨b1, b2⟩, b3, b4⟩ := hb
  simp only at b1 b2 b3 b4
  have HWF := Lib.hid hwf2
  have HBD := Lib.hid hbd2
  have HCB := Lib.hid hcb2
  have HD1 := Lib.hid hd1
  clear hra hd2 hwf2 hbd2 hcb2 hd1
  have q1 := cell_of_row w p 0 _ _ _ hS.hd
  simp only [List.getElem?_toArray, List.getElem?_cons_zero] at q1
  have hplt := (Array.getElem?_eq_some_iff.1 hS.hd).1
  go_enter Try.func62, Try.ntmps62
  go_wp2_with fail
  refine (many_any hS.row hS.wf hS.bd (by omega)).mono ?_
  rintro e w1 ⟨rfl, hE1⟩
  clear q1
  go_wp2
  go_loopw [9, 10] (fun va iv wr => ∃ (k : Nat) (A1 : Option Addr) (c1 : Nat) (ll : List Rn), k ≤ L.length ∧ iv = .int .i64 k ∧ va = .slice A1 ll.length c1 ∧ Hid (ll = remL (L.take k) lo hi) ∧ ll.length ≤ 2 * k ∧ RowRr w.heap.size wr A1 c1 ll ∧ Ext w wr) (fun _ iv _ => L.length - (intOf iv).toNat)
  case atStart => exact ⟨0, none, 0, [], Nat.zero_le _, rfl, rfl, Lib.hid rfl, by simp, World.ownsRow_nil _ _ _ _, hE1⟩
  case round =>
    obtain ⟨k, A1, c1, ll, hk, rfl, rfl, HF, hlen, ho1, hE⟩ := hrel
    have q1 := cell_of_row wr p 0 _ _ _ (hS.ext hE).hd
    simp only [List.getElem?_toArray, List.getElem?_cons_zero] at q1
    have hXs := hE.size
    by_cases hlt : k < L.length
    · obtain ⟨x, hx⟩ : ∃ x, L[k]? = some x := ⟨_, List.getElem?_eq_getElem hlt⟩
      obtain ⟨g, rfl, hkc, hcx⟩ := (hS.row.ext hE).read hx
      have hbx := hS.bd x (List.mem_of_getElem? hx)
      have hwx := hS.wf.each x (List.mem_of_getElem? hx)
      have hst := remL_snoc hx lo hi
      rw [← HF.out] at hst
      have HST := Lib.hid hst
      obtain ⟨xl, xh⟩ := x
      obtain ⟨⟨x1, x2⟩, x3, x4⟩ := hbx
      simp only at x1 x2 x3 x4 hwx
      have y0 := (hcx wr (Below.refl _ _)).1
      have y1 := (hcx wr (Below.refl _ _)).2
      have ex := ext_alloc wr (Obj.cells #[.int .i64 xl, .int .i64 xh] 26)
      have hxbk := heap_alloc_new wr (Obj.cells #[.int .i64 xl, .int .i64 xh] 26)
      clear hst hx HF hcx
      by_cases d1 : xh < lo
      · have HP : Hid (ll ++ [⟨xl, xh⟩] = remL (L.take (k + 1)) lo hi) := Lib.hid (by rw [HST.out, remP, if_pos (.inl d1)])
        clear HST
        go_wp2_with (at_builtin; refine wpList_append_apart rfl _ _ 22 rfl w.heap.size 26 i0 _ 2 16 Try.underlying22 hi0 hz0 hzz1 hzz2 rfl (by decide) _ ll.length _ rfl (own_ext ho1 ((ext_alloc wr _).trans (ext_alloc _ _))) ⟨wr.heap.size + 1, 0, none⟩ 1 1 [.int .i64 (xl), .int .i64 (xh)] rfl rfl (news_row2 wr _ _ _ _) (roner [⟨xl, xh⟩]) (by decide) (by unfold maxLen; omega) (by omega) (by simp; omega) ?_; intro v' w3 ho3 hc3; have hEA : Ext wr ((wr.alloc (Obj.cells #[.int .i64 xl, .int .i64 xh] 26)).alloc (Obj.cells #[.int .i64 (xl), .int .i64 (xh)] 26)) := (ext_alloc wr _).trans (ext_alloc _ _); obtain ⟨A3, c3, rfl, o3, hx3⟩ := push1r (x := ⟨xl, xh⟩) (own_ext ho1 hEA) ho3 hc3; have hX3 := hx3.to_ext (hE.trans hEA) (fun q o h => h.1); have hbx : w3.heap[wr.heap.size]? = some (.cells #[.int .i64 xl, .int .i64 xh] 26 (0, 0)) := hx3.blk ((ext_alloc _ _).blk hxbk) (fun h => by have := (World.ownsRow.lt ho1 _ h.2).2; omega); have c31 := cell_of_row w3 wr.heap.size 1 _ _ _ hbx; simp only [List.getElem?_toArray, List.getElem?_cons_zero, List.getElem?_cons_succ] at c31)
        clear ho3 hc3 hx3 hEA hE ho1 ex hxbk hbx c31
        go_wp2
        go_roundw
        case rel => exact ⟨k + 1, A3, c3, ll ++ [⟨xl, xh⟩], by omega, by go_num, by simp, HP, by simp; omega, o3, hX3⟩
        case measure => simp [intOf]; omega
      · by_cases d2 : hi < xl
        · have HP : Hid (ll ++ [⟨xl, xh⟩] = remL (L.take (k + 1)) lo hi) := Lib.hid (by rw [HST.out, remP, if_pos (.inr d2)])
          clear HST
          go_wp2_with (at_builtin; refine wpList_append_apart rfl _ _ 22 rfl w.heap.size 26 i0 _ 2 16 Try.underlying22 hi0 hz0 hzz1 hzz2 rfl (by decide) _ ll.length _ rfl (own_ext ho1 ((ext_alloc wr _).trans (ext_alloc _ _))) ⟨wr.heap.size + 1, 0, none⟩ 1 1 [.int .i64 (xl), .int .i64 (xh)] rfl rfl (news_row2 wr _ _ _ _) (roner [⟨xl, xh⟩]) (by decide) (by unfold maxLen; omega) (by omega) (by simp; omega) ?_; intro v' w3 ho3 hc3; have hEA : Ext wr ((wr.alloc (Obj.cells #[.int .i64 xl, .int .i64 xh] 26)).alloc (Obj.cells #[.int .i64 (xl), .int .i64 (xh)] 26)) := (ext_alloc wr _).trans (ext_alloc _ _); obtain ⟨A3, c3, rfl, o3, hx3⟩ := push1r (x := ⟨xl, xh⟩) (own_ext ho1 hEA) ho3 hc3; have hX3 := hx3.to_ext (hE.trans hEA) (fun q o h => h.1); have hbx : w3.heap[wr.heap.size]? = some (.cells #[.int .i64 xl, .int .i64 xh] 26 (0, 0)) := hx3.blk ((ext_alloc _ _).blk hxbk) (fun h => by have := (World.ownsRow.lt ho1 _ h.2).2; omega); have c31 := cell_of_row w3 wr.heap.size 1 _ _ _ hbx; simp only [List.getElem?_toArray, List.getElem?_cons_zero, List.getElem?_cons_succ] at c31)
          clear ho3 hc3 hx3 hEA hE ho1 ex hxbk hbx c31
          go_wp2
          go_roundw
          case rel => exact ⟨k + 1, A3, c3, ll ++ [⟨xl, xh⟩], by omega, by go_num, by simp, HP, by simp; omega, o3, hX3⟩
          case measure => simp [intOf]; omega
        · by_cases d3 : xl < lo
          · by_cases d4 : hi < xh
            · have HP : Hid ((ll ++ [⟨xl, lo - 1⟩]) ++ [⟨hi + 1, xh⟩] = remL (L.take (k + 1)) lo hi) := Lib.hid (by rw [HST.out, remP, if_neg (show ¬ (xh < lo ∨ hi < xl) by omega), if_pos d3, if_pos d4]; simp)
              clear HST
              go_wp2_with (first | (at_builtin; refine wpList_append_apart rfl _ _ 22 rfl w.heap.size 26 i0 _ 2 16 Try.underlying22 hi0 hz0 hzz1 hzz2 rfl (by decide) _ l2.length _ rfl (own_ext o3 (ext_alloc w3 _)) ⟨w3.heap.size, 0, none⟩ 1 1 [.int .i64 (hi + 1), .int .i64 xh] rfl rfl (news_row w3 _ _ _) (roner [⟨hi + 1, xh⟩]) (by decide) (by unfold maxLen; omega) (by omega) (by simp; omega) ?_; intro v4 w4 ho4 hc4) | (at_builtin; refine wpList_append_apart rfl _ _ 22 rfl w.heap.size 26 i0 _ 2 16 Try.underlying22 hi0 hz0 hzz1 hzz2 rfl (by decide) _ ll.length _ rfl (own_ext ho1 ((ext_alloc wr _).trans (ext_alloc _ _))) ⟨wr.heap.size + 1, 0, none⟩ 1 1 [.int .i64 (xl), .int .i64 (lo - 1)] rfl rfl (news_row2 wr _ _ _ _) (roner [⟨xl, lo - 1⟩]) (by decide) (by unfold maxLen; omega) (by omega) (by simp; omega) ?_; intro v' w3 ho3 hc3; have hEA : Ext wr ((wr.alloc (Obj.cells #[.int .i64 xl, .int .i64 xh] 26)).alloc (Obj.cells #[.int .i64 (xl), .int .i64 (lo - 1)] 26)) := (ext_alloc wr _).trans (ext_alloc _ _); obtain ⟨A3, c3, rfl, o3, hx3⟩ := push1r (x := ⟨xl, lo - 1⟩) (own_ext ho1 hEA) ho3 hc3; have hX3 := hx3.to_ext (hE.trans hEA) (fun q o h => h.1); have hbx : w3.heap[wr.heap.size]? = some (.cells #[.int .i64 xl, .int .i64 xh] 26 (0, 0)) := hx3.blk ((ext_alloc _ _).blk hxbk) (fun h => by have := (World.ownsRow.lt ho1 _ h.2).2; omega); have c31 := cell_of_row w3 wr.heap.size 1 _ _ _ hbx; simp only [List.getElem?_toArray, List.getElem?_cons_zero, List.getElem?_cons_succ] at c31; have hl3 : (ll ++ [(⟨xl, lo - 1⟩ : Rn)]).length = ll.length + 1 := (by simp); obtain ⟨l2, hl2⟩ : ∃ l2, ll ++ [(⟨xl, lo - 1⟩ : Rn)] = l2 := ⟨_, rfl⟩; rw [hl2] at o3 HP; rw [hl2] at hl3; rw [← hl3]; have hl4 := Nat.le_of_eq hl3; have hz3 := hX3.size; clear hl3 ho3 hc3 hx3 hEA hE ho1 ex hxbk hl2 hbx))
              have hEA : Ext w3 (w3.alloc (Obj.cells #[.int .i64 (hi + 1), .int .i64 xh] 26)) := ext_alloc _ _
              obtain ⟨A4, c4, rfl, o4, hx4⟩ := push1r (x := ⟨hi + 1, xh⟩) (own_ext o3 hEA) ho4 hc4
              have hX4 := hx4.to_ext (hX3.trans hEA) (fun q o h => h.1)
              clear ho4 hc4 hx4 hEA hX3 o3 c31
              go_wp2
              go_roundw
              case rel => exact ⟨k + 1, A4, c4, l2 ++ [⟨hi + 1, xh⟩], by omega, by go_num, by simp, HP, by simp; omega, o4, hX4⟩
              case measure => simp [intOf]; omega
            · have HP : Hid (ll ++ [⟨xl, lo - 1⟩] = remL (L.take (k + 1)) lo hi) := Lib.hid (by rw [HST.out, remP, if_neg (show ¬ (xh < lo ∨ hi < xl) by omega), if_pos d3, if_neg d4]; simp)
              clear HST
              go_wp2_with (at_builtin; refine wpList_append_apart rfl _ _ 22 rfl w.heap.size 26 i0 _ 2 16 Try.underlying22 hi0 hz0 hzz1 hzz2 rfl (by decide) _ ll.length _ rfl (own_ext ho1 ((ext_alloc wr _).trans (ext_alloc _ _))) ⟨wr.heap.size + 1, 0, none⟩ 1 1 [.int .i64 (xl), .int .i64 (lo - 1)] rfl rfl (news_row2 wr _ _ _ _) (roner [⟨xl, lo - 1⟩]) (by decide) (by unfold maxLen; omega) (by omega) (by simp; omega) ?_; intro v' w3 ho3 hc3; have hEA : Ext wr ((wr.alloc (Obj.cells #[.int .i64 xl, .int .i64 xh] 26)).alloc (Obj.cells #[.int .i64 (xl), .int .i64 (lo - 1)] 26)) := (ext_alloc wr _).trans (ext_alloc _ _); obtain ⟨A3, c3, rfl, o3, hx3⟩ := push1r (x := ⟨xl, lo - 1⟩) (own_ext ho1 hEA) ho3 hc3; have hX3 := hx3.to_ext (hE.trans hEA) (fun q o h => h.1); have hbx : w3.heap[wr.heap.size]? = some (.cells #[.int .i64 xl, .int .i64 xh] 26 (0, 0)) := hx3.blk ((ext_alloc _ _).blk hxbk) (fun h => by have := (World.ownsRow.lt ho1 _ h.2).2; omega); have c31 := cell_of_row w3 wr.heap.size 1 _ _ _ hbx; simp only [List.getElem?_toArray, List.getElem?_cons_zero, List.getElem?_cons_succ] at c31)
              clear ho3 hc3 hx3 hEA hE ho1 ex hxbk hbx c31
              go_wp2
              go_roundw
              case rel => exact ⟨k + 1, A3, c3, ll ++ [⟨xl, lo - 1⟩], by omega, by go_num, by simp, HP, by simp; omega, o3, hX3⟩
              case measure => simp [intOf]; omega
          · by_cases d4 : hi < xh
            · have HP : Hid (ll ++ [⟨hi + 1, xh⟩] = remL (L.take (k + 1)) lo hi) := Lib.hid (by rw [HST.out, remP, if_neg (show ¬ (xh < lo ∨ hi < xl) by omega), if_neg d3, if_pos d4]; simp)
              clear HST
              go_wp2_with (at_builtin; refine wpList_append_apart rfl _ _ 22 rfl w.heap.size 26 i0 _ 2 16 Try.underlying22 hi0 hz0 hzz1 hzz2 rfl (by decide) _ ll.length _ rfl (own_ext ho1 ((ext_alloc wr _).trans (ext_alloc _ _))) ⟨wr.heap.size + 1, 0, none⟩ 1 1 [.int .i64 (hi + 1), .int .i64 (xh)] rfl rfl (news_row2 wr _ _ _ _) (roner [⟨hi + 1, xh⟩]) (by decide) (by unfold maxLen; omega) (by omega) (by simp; omega) ?_; intro v' w3 ho3 hc3; have hEA : Ext wr ((wr.alloc (Obj.cells #[.int .i64 xl, .int .i64 xh] 26)).alloc (Obj.cells #[.int .i64 (hi + 1), .int .i64 (xh)] 26)) := (ext_alloc wr _).trans (ext_alloc _ _); obtain ⟨A3, c3, rfl, o3, hx3⟩ := push1r (x := ⟨hi + 1, xh⟩) (own_ext ho1 hEA) ho3 hc3; have hX3 := hx3.to_ext (hE.trans hEA) (fun q o h => h.1); have hbx : w3.heap[wr.heap.size]? = some (.cells #[.int .i64 xl, .int .i64 xh] 26 (0, 0)) := hx3.blk ((ext_alloc _ _).blk hxbk) (fun h => by have := (World.ownsRow.lt ho1 _ h.2).2; omega); have c31 := cell_of_row w3 wr.heap.size 1 _ _ _ hbx; simp only [List.getElem?_toArray, List.getElem?_cons_zero, List.getElem?_cons_succ] at c31)
              clear ho3 hc3 hx3 hEA hE ho1 ex hxbk hbx c31
              go_wp2
              go_roundw
              case rel => exact ⟨k + 1, A3, c3, ll ++ [⟨hi + 1, xh⟩], by omega, by go_num, by simp, HP, by simp; omega, o3, hX3⟩
              case measure => simp [intOf]; omega
            · have HP : Hid (ll = remL (L.take (k + 1)) lo hi) := Lib.hid (by rw [HST.out, remP, if_neg (show ¬ (xh < lo ∨ hi < xl) by omega), if_neg d3, if_neg d4]; simp)
              clear HST
              have o1 := ho1.ext ex
              have hX3 := hE.trans ex
              go_wp2
              go_roundw
              case rel => exact ⟨k + 1, A1, c1, ll, by omega, by go_num, rfl, HP, by omega, o1, hX3⟩
              case measure => simp [intOf]; omega
    · obtain rfl : k = L.length := by omega
      rw [List.take_length] at HF
      have hwf2 := HWF.out
      have hbd2 := HBD.out
      have hcb2 := HCB.out
      have hd1 := HD1.out
      rw [← HF.out] at hwf2 hbd2 hcb2 hd1
      have hp4 := (hS.ext hE).hd
      have k1 := frozen_of_row wr p 0 _ _ hp4
      have hp5 := heap_setCell_same wr p 0 _ _ (.slice A1 ll.length c1) hp4
      have hx5 := (Exc.of_ext hE (D := fun q _ => q = p)).trans (setCell_excr wr p 0 (.slice A1 ll.length c1))
      have o5 := own_exc ho1 (setCell_excr wr p 0 (.slice A1 ll.length c1)) (fun q cs h1 h2 => by omega)
      have hS5 : SetAtr B p A1 c1 (wr.setCell ⟨p, 0, none⟩ (.slice A1 ll.length c1)) ll := ⟨hp5, own_mono o5 (by omega), hwf2, hbd2⟩
      have k2 := cell_of_row _ p 0 _ _ _ hp5
      simp only [List.getElem?_toArray, List.setIfInBounds_toArray, List.set_cons_zero, List.getElem?_cons_zero] at k2
      clear hp4 HWF HBD HCB HD1
      go_wp2_with fail
      refine (many_any hS5.row hS5.wf hS5.bd (by omega)).mono ?_
      rintro e w6 ⟨rfl, hE6⟩
      have hw0 : IntKind.u64.wrap (cnt L - cnt ll) = cnt L - cnt ll := by rw [IntKind.wrap_u64]; omega
      clear k2
      go_wp2_with fail
      refine (told_any (n := cnt L - cnt ll) ⟨hd1, by omega⟩).mono ?_
      rintro e w7 ⟨rfl, rfl⟩
      go_wp2
      go_ret
      rw [← HF.out]
      exact ⟨A1, c1, rfl, hS5.ext hE6, hx5.trans (Exc.of_ext hE6)⟩
end Go.Proofs.Ytffapgemacbdjaa
