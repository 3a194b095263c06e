/- Package runs, at int: Remove, Has, Lowest, New of none. No condition but the bounds of the kind and of the sizes. -/
import Derived.Test.YtaalhicdeibodaaRei
import Derived.Test.YtaalhicdeibodaaRrem
namespace Go.Proofs.Ytaalhicdeibodaa
open Go.RowKit Go.Proofs Go.Shelf
set_option linter.unusedVariables false
attribute [local go_sem] Oper.semAt_some
theorem alloc3_ati (w : World) (a b c : Obj) : (((w.alloc a).alloc b).alloc c).heap.size = w.heap.size + 3 ∧ (((w.alloc a).alloc b).alloc c).heap[w.heap.size]? = some a ∧ (((w.alloc a).alloc b).alloc c).heap[w.heap.size + 1]? = some b ∧ (((w.alloc a).alloc b).alloc c).heap[w.heap.size + 1 + 1]? = some c := by
  have e : (((w.alloc a).alloc b).alloc c).heap = ((w.heap.push a).push b).push c := rfl
  rw [e]
  refine ⟨by simp, ?_, ?_, ?_⟩
  · rw [Array.getElem?_push_lt (by simp <;> omega), Array.getElem_push_lt (by simp), Array.getElem_push_eq]
  · rw [Array.getElem?_push_lt (by simp)]
    have := Array.getElem_push_eq (xs := w.heap.push a) (x := b)
    simpa using this
  · have := Array.getElem?_push_size (xs := (w.heap.push a).push b) (x := c)
    simpa using this
/-- One run more onto a row of the call's own. -/
theorem push1i {B : Nat} {w w3 : World} {A : Option Addr} {c : Nat} {ll : List Rn} {x : Rn} {v' : Value} (h : RowRi B w A c ll) (ho3 : w3.ownsRow B 94 2 v' (ll.length + 1) (ll.flatMap rci ++ [.int .i64 x.lo, .int .i64 x.hi]))
    (hc3 : (∃ A' c', Value.slice A ll.length c = .slice A' ll.length c' ∧ v' = .slice A' (ll.length + 1) c' ∧ w.grownBy w3 (Value.slice A ll.length c).ownBlock) ∨ (w.grownBy w3 none ∧ ∀ g, v'.ownBlock = some g → w.heap.size ≤ g)) :
    ∃ A3 c3, v' = .slice A3 (ll.length + 1) c3 ∧ RowRi B w3 A3 c3 (ll ++ [x]) ∧ Exc (fun q _ => B ≤ q ∧ (Value.slice A ll.length c).ownBlock = some q) w w3 := by
  have hex : Exc (fun q _ => B ≤ q ∧ (Value.slice A ll.length c).ownBlock = some q) w w3 := by
    rcases hc3 with ⟨A', c', e, _, hg⟩ | ⟨hg, _⟩
    · exact Exc.of_grown hg (fun g o h1 _ => ⟨(World.ownsRow.lt h g h1).1, h1⟩)
    · exact Exc.of_grown hg (fun g o h1 _ => by cases h1)
  obtain ⟨A3, c3, rfl⟩ := slice_of_own ho3
  refine ⟨A3, c3, rfl, ?_, hex⟩
  unfold RowRi
  rw [List.length_append, List.flatMap_append]
  exact ho3
theorem rem_nonei {p : Value} {lo hi : Int} {w : World} (hle : ¬ lo ≤ hi) : Calls Try.prog 71 #[p, .int .i64 lo, .int .i64 hi] w fun e w' => e = .returned (.int .i64 0) ∧ w = w' := by
  have h : hi < lo := by omega
  go_enter Try.func71, Try.ntmps71
  go_wp2
  go_ret
  exact ⟨rfl, rfl⟩
set_option maxRecDepth 100000 in
set_option maxHeartbeats 2000000 in
theorem rem_anyFi {B p c : Nat} {A : Option Addr} {L : List Rn} {lo hi : Int} {w : World} (hS : SetAti B p A c w L) (hl : L.length ≤ 1000000) (hb : Bdi ⟨lo, hi⟩) (hpB : B ≤ p) (hBw : B ≤ w.heap.size) (hle : lo ≤ hi) :
    Calls Try.prog 71 #[.pointer (some ⟨p, 0, none⟩), .int .i64 lo, .int .i64 hi] w fun e w' => ∃ A' c', e = .returned (.int .i64 ((withinL L ⟨lo, hi⟩).foldl withZ 0)) ∧ SetAti B p A' c' w' (remL L lo hi) ∧ Exc (fun q _ => q = p) w w' ∧ RowRi w.heap.size w' A' c' (remL L lo hi) := by
  obtain ⟨i0, hi0, hz0, hzz1, hzz2⟩ := info_parts infoRi
  refine (callsIn_wide (n := 0)).1 ?_
  refine callsIn_of_wp_marks Try.func71 rfl trivial ?_
  simp only [Try.ntmps71, List.size_toArray, List.length_cons, List.length_nil, Nat.reduceAdd, Nat.reduceSub, Array.replicate_succ, Array.replicate_zero, List.push_toArray, List.append_toArray, List.nil_append, List.cons_append]
  gi_wp2
  refine ⟨trivial, rfl, (callsIn_wide.2 (within_anyi (r := ⟨lo, hi⟩))).mono ?_⟩
  rintro e w' ⟨rfl, rfl⟩
  gi_wp2
  refine wpIn_cut (fun V => Ext w V ∧ V.heap.size = w.heap.size + 3 ∧ V.heap[w.heap.size]? = some (.cells #[.int .u64 0] 98 (0, 0)) ∧ V.heap[w.heap.size + 1]? = some (.cells #[.pointer (some ⟨p, 0, none⟩)] 70 (0, 0)) ∧ V.heap[w.heap.size + 1 + 1]? = some (.cells #[.int .i64 lo, .int .i64 hi] 94 (0, 0)))
    ⟨(ext_alloc _ _).trans ((ext_alloc _ _).trans (ext_alloc _ _)), alloc3_ati _ _ _ _⟩ ?_
  rintro w1 ⟨hE1, hz1, b1, b2, b3⟩
  have hplt := (Array.getElem?_eq_some_iff.1 hS.hd).1
  have hrowlt : ∀ q, (Value.slice A L.length c).ownBlock = some q → q < w.heap.size := fun q hq => (World.ownsRow.lt hS.row q hq).2
  have hb2 := hb
  obtain ⟨⟨e1, e2⟩, e3, e4⟩ := hb
  simp only at e1 e2 e3 e4
  refine wpIn_rangeX (α := Rn) rfl (enters_of Try.func75 (by kernel_rfl) rfl)
    (within_seqi (p := p) (r := ⟨lo, hi⟩) (Dk := fun q => q = w.heap.size) b2 b3 (hS.ext hE1) hl (by omega) (by omega) (by omega) (fun q hq h => by have := hrowlt q hq; omega))
    (fun q h => h.elim) (fun q h => by omega) (fun _ => rfl)
    (fun pre V => Ext w V ∧ V.heap[w.heap.size]? = some (.cells #[.int .u64 (pre.foldl withZ 0)] 98 (0, 0)) ∧ 0 ≤ pre.foldl withZ 0 ∧ pre.foldl withZ 0 ≤ 9223372036854775807)
    (fun _ _ _ => False) ?hI ?hIx ?h0
    (fun x a' V => ∃ xb, w1.heap.size ≤ xb ∧ V.heap[xb]? = some (.cells #[.int .i64 x.lo, .int .i64 x.hi] 94 (0, 0)) ∧ a' = { tmps := #[Value.pointer (some ⟨p, 0, none⟩), .int .i64 lo, .int .i64 hi, undef, undef, undef, .int .i64 0, .pointer (some ⟨w.heap.size, 0, none⟩), .pointer (some ⟨xb, 0, none⟩), undef, undef, undef, .int .i64 lo, .int .i64 hi, .bool (decide (hi < lo)), .pointer (some ⟨p, 0, none⟩), .int .i64 lo, .int .i64 hi, .agg #[.int .i64 lo, .int .i64 hi],
      .func (.func 75) #[] #[.pointer (some ⟨w.heap.size + 1, 0, none⟩), .pointer (some ⟨w.heap.size + 1 + 1, 0, none⟩)], .agg #[.int .i64 x.lo, .int .i64 x.hi], undef, undef, undef, undef, undef, undef, undef, undef, undef, undef, undef, undef, undef, undef, undef, undef, undef, undef, undef, undef, undef, undef, undef, undef, undef, undef, undef, undef, undef, undef, undef, undef, undef, undef, undef, undef, undef, undef, undef, undef, undef, undef, undef, undef, undef, undef, undef, undef, undef, undef, undef, undef, undef, undef, undef, undef, undef], defers := [] })
    ?hAx ?assign ?body ?done ?stop
  case hI =>
    rintro s A' B' row ⟨x1, x3, x4⟩ hg hrw
    have hlow : ∀ q, row = some q → w.heap.size < q := fun q e => by
      rcases hrw q e with h | ⟨h, _⟩
      · exact h.elim
      · omega
    refine ⟨Below.grown x1 hg x1.size (fun q e => Nat.le_of_lt (hlow q e)), ?_, x4⟩
    exact (hg.block _ (Array.getElem?_eq_some_iff.1 x3).1 (fun e => by have := hlow _ e.symm; omega)).trans x3
  case hIx => exact fun _ _ _ _ _ h _ _ => h
  case h0 => exact ⟨hE1, b1, by decide, by decide⟩
  case hAx =>
    rintro x a' A' B' row ⟨xb, y1, y2, y3⟩ hg hrw
    exact ⟨xb, y1, cells_abide (C := 0) hg (fun q e => .inr ⟨Nat.zero_le _, hrw q e⟩) y2, y3⟩
  case assign =>
    intro l2 x V K hsz hK
    gi_wp2
    exact hK _ _ (ext_alloc _ _) ⟨V.heap.size, hsz, heap_alloc_new _ _, rfl⟩
  case body =>
    rintro l2 pre x a' V ⟨hE, hnv, hn0, hn1⟩ ⟨xb, hxb, hxc, rfl⟩ hpre hsz
    have hxm : x ∈ withinL L ⟨lo, hi⟩ := by obtain ⟨t, ht⟩ := hpre; rw [← ht]; simp
    obtain ⟨m1, m2, m3, _⟩ := within_mem hxm
    simp only at m2 m3
    have hbx : Bdi x := ⟨⟨by omega, by omega⟩, by omega, by omega⟩
    have hfs : (pre ++ [x]).foldl withZ 0 = withZ (pre.foldl withZ 0) x := by rw [List.foldl_append]; rfl
    have HF := Lib.hid hfs
    clear hfs hpre hxm
    generalize pre.foldl withZ 0 = n at *
    have q0 := cell_of_row V xb 0 _ _ _ hxc
    have q1 := cell_of_row V xb 1 _ _ _ hxc
    have q2 := cell_of_row V w.heap.size 0 _ _ _ hnv
    simp only [List.getElem?_toArray, List.getElem?_cons_zero, List.getElem?_cons_succ] at q0 q1 q2
    have hzb := withZ_bd ⟨hn0, hn1⟩ m1
    gi_wp2
    refine ⟨trivial, rfl, (CallsIn.inRound l2 (callsIn_wide.2 (with_anyi (r := x) hbx m1 ⟨hn0, hn1⟩))).mono ?_⟩
    rintro e V2 ⟨rfl, hE2⟩
    have k1 := hE2.blk hnv
    have q2' := cell_of_row V2 w.heap.size 0 _ _ _ k1
    have f2' := frozen_of_row V2 w.heap.size 0 _ _ k1
    simp only [List.getElem?_toArray, List.getElem?_cons_zero] at q2'
    have k1' := heap_setCell_same V2 w.heap.size 0 _ _ (.int .u64 (withZ n x)) k1
    have hgr : V2.grownBy (V2.setCell ⟨w.heap.size, 0, none⟩ (.int .u64 (withZ n x))) (some w.heap.size) := ⟨rfl, rfl, rfl, by simp [World.setCell], fun k hk hn => Below.heap_setCell V2 _ _ k (by rintro rfl; exact hn rfl)⟩
    have hEE : Ext w (V2.setCell ⟨w.heap.size, 0, none⟩ (.int .u64 (withZ n x))) := ext_only (hE.trans hE2) hgr (Nat.le_refl _)
    have hXX : RoundX (fun q => q = w.heap.size) w1.heap.size V (V2.setCell ⟨w.heap.size, 0, none⟩ (.int .u64 (withZ n x))) := (RoundX.of_ext hE2).trans (Exc.of_grown hgr (fun q o h _ => by injection h with h; exact .inl h.symm))
    clear q0 q1 q2 hnv k1 hxc hE hE2 hgr
    gi_wp2
    exact ⟨hXX, hEE, by rw [HF.out]; exact k1', by rw [HF.out]; exact hzb.1, by rw [HF.out]; exact hzb.2⟩
  case stop => exact fun _ _ _ _ _ h => h.elim
  case done =>
    rintro E xs V rfl ⟨hE, hnv, hn0, hn1⟩ hEs hKE
    obtain ⟨n, hn⟩ : ∃ n, (withinL L ⟨lo, hi⟩).foldl withZ 0 = n := ⟨_, rfl⟩
    rw [hn] at hnv hn0 hn1
    have HNN := Lib.hid hn
    clear hn
    have hS1 := hS.ext hE
    have q1 := cell_of_row V p 0 _ _ _ hS1.hd
    simp only [List.getElem?_toArray, List.getElem?_cons_zero] at q1
    gi_wp2
    gi_loopw [9, 29] (fun va i wr => ∃ (k : Nat) (A1 : Option Addr) (c1 : Nat) (ll : List Rn), k ≤ L.length ∧ i = .int .i64 k ∧ va = .slice A1 ll.length c1 ∧ Hid (ll = remL (L.take k) lo hi) ∧ ll.length ≤ 2 * k ∧ RowRi V.heap.size wr A1 c1 ll ∧ Ext V wr) (fun _ i _ => L.length - (intOf i).toNat)
    case atStart => exact ⟨0, none, 0, [], Nat.zero_le _, rfl, rfl, Lib.hid rfl, by simp, World.ownsRow_nil _ _ _ _, Below.refl _ _⟩
    case round =>
      obtain ⟨k, A1, c1, ll, hk, rfl, rfl, HF, hlen, ho1, hX⟩ := hrel
      by_cases hlt : k < L.length
      · obtain ⟨x, hx⟩ : ∃ x, L[k]? = some x := ⟨_, List.getElem?_eq_getElem hlt⟩
        have hEr := hE.trans hX
        obtain ⟨g, rfl, hlc, hBg, cx0, cx1⟩ := (hS.row.ext hEr).at hx
        have hkc : k < c := by omega
        have hbx := hS.bd x (List.mem_of_getElem? hx)
        have hwx := hS.wf.each x (List.mem_of_getElem? hx)
        have hst := remL_snoc hx lo hi
        rw [← HF.out] at hst
        have HST := Lib.hid hst
        clear hst hx HF
        obtain ⟨xl, xh⟩ := x
        obtain ⟨⟨x1, x2⟩, x3, x4⟩ := hbx
        simp only at x1 x2 x3 x4 hwx
        have hXs := hX.size
        have ex := ext_alloc wr (Obj.cells #[.int .i64 xl, .int .i64 xh] 94)
        have hxbk := heap_alloc_new wr (Obj.cells #[.int .i64 xl, .int .i64 xh] 94)
        refine wpIn_wide.2 ?_
        by_cases d1 : xh < lo
        · have HP : Hid (ll ++ [⟨xl, xh⟩] = remL (L.take (k + 1)) lo hi) := Lib.hid (by rw [HST.out, remP, if_pos (.inl d1)])
          clear HST
          go_wp2_with (at_builtin; refine wpList_append_apart rfl _ _ 90 rfl V.heap.size 94 i0 _ 2 16 Try.underlying90 hi0 hz0 hzz1 hzz2 rfl (by decide) _ ll.length _ rfl (own_ext ho1 ((ext_alloc wr _).trans (ext_alloc _ _))) ⟨wr.heap.size + 1, 0, none⟩ 1 1 [.int .i64 (xl), .int .i64 (xh)] rfl rfl (news_row2 wr _ _ _ _) (by intro u hu; simp only [List.mem_cons, List.not_mem_nil, or_false] at hu; rcases hu with rfl | rfl <;> rfl) (by decide) (by simp [maxLen]; omega) (by omega) (by simp; omega) ?_; intro v' w3 ho3 hc3)
          have hEA : Ext wr ((wr.alloc (Obj.cells #[.int .i64 xl, .int .i64 xh] 94)).alloc (Obj.cells #[.int .i64 (xl), .int .i64 (xh)] 94)) := (ext_alloc wr _).trans (ext_alloc _ _)
          obtain ⟨A3, c3, rfl, o3, hx3⟩ := push1i (x := ⟨xl, xh⟩) (own_ext ho1 hEA) ho3 hc3
          have hX3 := hx3.to_ext (hX.trans hEA) (fun q o h => h.1)
          clear ho3 hc3 hx3 hEA hX ho1 ex hxbk
          go_wp2
          go_roundw
          case rel => exact ⟨k + 1, A3, c3, ll ++ [⟨xl, xh⟩], by omega, by go_num, by simp, HP, by simp; omega, o3, hX3⟩
          case measure => simp [intOf]; omega
        · by_cases d2 : hi < xl
          · have HP : Hid (ll ++ [⟨xl, xh⟩] = remL (L.take (k + 1)) lo hi) := Lib.hid (by rw [HST.out, remP, if_pos (.inr d2)])
            clear HST
            go_wp2_with (at_builtin; refine wpList_append_apart rfl _ _ 90 rfl V.heap.size 94 i0 _ 2 16 Try.underlying90 hi0 hz0 hzz1 hzz2 rfl (by decide) _ ll.length _ rfl (own_ext ho1 ((ext_alloc wr _).trans (ext_alloc _ _))) ⟨wr.heap.size + 1, 0, none⟩ 1 1 [.int .i64 (xl), .int .i64 (xh)] rfl rfl (news_row2 wr _ _ _ _) (by intro u hu; simp only [List.mem_cons, List.not_mem_nil, or_false] at hu; rcases hu with rfl | rfl <;> rfl) (by decide) (by simp [maxLen]; omega) (by omega) (by simp; omega) ?_; intro v' w3 ho3 hc3)
            have hEA : Ext wr ((wr.alloc (Obj.cells #[.int .i64 xl, .int .i64 xh] 94)).alloc (Obj.cells #[.int .i64 (xl), .int .i64 (xh)] 94)) := (ext_alloc wr _).trans (ext_alloc _ _)
            obtain ⟨A3, c3, rfl, o3, hx3⟩ := push1i (x := ⟨xl, xh⟩) (own_ext ho1 hEA) ho3 hc3
            have hX3 := hx3.to_ext (hX.trans hEA) (fun q o h => h.1)
            clear ho3 hc3 hx3 hEA hX ho1 ex hxbk
            go_wp2
            go_roundw
            case rel => exact ⟨k + 1, A3, c3, ll ++ [⟨xl, xh⟩], by omega, by go_num, by simp, HP, by simp; omega, o3, hX3⟩
            case measure => simp [intOf]; omega
          · by_cases d3 : xl < lo
            · by_cases d4 : hi < xh
              · have HP : Hid ((ll ++ [⟨xl, lo - 1⟩]) ++ [⟨hi + 1, xh⟩] = remL (L.take (k + 1)) lo hi) := Lib.hid (by rw [HST.out, remP, if_neg (show ¬ (xh < lo ∨ hi < xl) by omega), if_pos d3, if_pos d4]; simp)
                clear HST
                go_wp2_with (first | (at_builtin; refine wpList_append_apart rfl _ _ 90 rfl V.heap.size 94 i0 _ 2 16 Try.underlying90 hi0 hz0 hzz1 hzz2 rfl (by decide) _ l2.length _ rfl (own_ext o3 (ext_alloc w3 _)) ⟨w3.heap.size, 0, none⟩ 1 1 [.int .i64 (hi + 1), .int .i64 xh] rfl rfl (news_row w3 _ _ _) (by intro u hu; simp only [List.mem_cons, List.not_mem_nil, or_false] at hu; rcases hu with rfl | rfl <;> rfl) (by decide) (by simp [maxLen]; omega) (by omega) (by simp; omega) ?_; intro v4 w4 ho4 hc4) | (at_builtin; refine wpList_append_apart rfl _ _ 90 rfl V.heap.size 94 i0 _ 2 16 Try.underlying90 hi0 hz0 hzz1 hzz2 rfl (by decide) _ ll.length _ rfl (own_ext ho1 ((ext_alloc wr _).trans (ext_alloc _ _))) ⟨wr.heap.size + 1, 0, none⟩ 1 1 [.int .i64 (xl), .int .i64 (lo - 1)] rfl rfl (news_row2 wr _ _ _ _) (by intro u hu; simp only [List.mem_cons, List.not_mem_nil, or_false] at hu; rcases hu with rfl | rfl <;> rfl) (by decide) (by simp [maxLen]; omega) (by omega) (by simp; omega) ?_; intro v' w3 ho3 hc3; have hEA : Ext wr ((wr.alloc (Obj.cells #[.int .i64 xl, .int .i64 xh] 94)).alloc (Obj.cells #[.int .i64 (xl), .int .i64 (lo - 1)] 94)) := (ext_alloc wr _).trans (ext_alloc _ _); obtain ⟨A3, c3, rfl, o3, hx3⟩ := push1i (x := ⟨xl, lo - 1⟩) (own_ext ho1 hEA) ho3 hc3; have hX3 := hx3.to_ext (hX.trans hEA) (fun q o h => h.1); have hbx : w3.heap[wr.heap.size]? = some (.cells #[.int .i64 xl, .int .i64 xh] 94 (0, 0)) := hx3.blk ((ext_alloc _ _).blk hxbk) (fun h => by have := (World.ownsRow.lt ho1 _ h.2).2; omega); have c31 := cell_of_row w3 wr.heap.size 1 _ _ _ hbx; simp only [List.getElem?_toArray, List.getElem?_cons_zero, List.getElem?_cons_succ] at c31; have hl3 : (ll ++ [(⟨xl, lo - 1⟩ : Rn)]).length = ll.length + 1 := (by simp); obtain ⟨l2, hl2⟩ : ∃ l2, ll ++ [(⟨xl, lo - 1⟩ : Rn)] = l2 := ⟨_, rfl⟩; rw [hl2] at o3 hl3 HP; rw [← hl3]; have hl4 := Nat.le_of_eq hl3; have hz3 := hX3.size; clear hl3 ho3 hc3 hx3 hEA hX ho1 ex hxbk hl2 hbx))
                have hEA : Ext w3 (w3.alloc (Obj.cells #[.int .i64 (hi + 1), .int .i64 xh] 94)) := ext_alloc _ _
                obtain ⟨A4, c4, rfl, o4, hx4⟩ := push1i (x := ⟨hi + 1, xh⟩) (own_ext o3 hEA) ho4 hc4
                have hX4 := hx4.to_ext (hX3.trans hEA) (fun q o h => h.1)
                clear ho4 hc4 hx4 hEA hX3 o3 c31
                go_wp2
                go_roundw
                case rel => exact ⟨k + 1, A4, c4, l2 ++ [⟨hi + 1, xh⟩], by omega, by go_num, by simp, HP, by simp; omega, o4, hX4⟩
                case measure => simp [intOf]; omega
              · have HP : Hid (ll ++ [⟨xl, lo - 1⟩] = remL (L.take (k + 1)) lo hi) := Lib.hid (by rw [HST.out, remP, if_neg (show ¬ (xh < lo ∨ hi < xl) by omega), if_pos d3, if_neg d4]; simp)
                clear HST
                go_wp2_with (at_builtin; refine wpList_append_apart rfl _ _ 90 rfl V.heap.size 94 i0 _ 2 16 Try.underlying90 hi0 hz0 hzz1 hzz2 rfl (by decide) _ ll.length _ rfl (own_ext ho1 ((ext_alloc wr _).trans (ext_alloc _ _))) ⟨wr.heap.size + 1, 0, none⟩ 1 1 [.int .i64 (xl), .int .i64 (lo - 1)] rfl rfl (news_row2 wr _ _ _ _) (by intro u hu; simp only [List.mem_cons, List.not_mem_nil, or_false] at hu; rcases hu with rfl | rfl <;> rfl) (by decide) (by simp [maxLen]; omega) (by omega) (by simp; omega) ?_; intro v' w3 ho3 hc3; have hEA : Ext wr ((wr.alloc (Obj.cells #[.int .i64 xl, .int .i64 xh] 94)).alloc (Obj.cells #[.int .i64 (xl), .int .i64 (lo - 1)] 94)) := (ext_alloc wr _).trans (ext_alloc _ _); obtain ⟨A3, c3, rfl, o3, hx3⟩ := push1i (x := ⟨xl, lo - 1⟩) (own_ext ho1 hEA) ho3 hc3; have hX3 := hx3.to_ext (hX.trans hEA) (fun q o h => h.1); have hbx : w3.heap[wr.heap.size]? = some (.cells #[.int .i64 xl, .int .i64 xh] 94 (0, 0)) := hx3.blk ((ext_alloc _ _).blk hxbk) (fun h => by have := (World.ownsRow.lt ho1 _ h.2).2; omega); have c31 := cell_of_row w3 wr.heap.size 1 _ _ _ hbx; simp only [List.getElem?_toArray, List.getElem?_cons_zero, List.getElem?_cons_succ] at c31)
                clear ho3 hc3 hx3 hEA hX ho1 ex hxbk
                go_wp2
                go_roundw
                case rel => exact ⟨k + 1, A3, c3, ll ++ [⟨xl, lo - 1⟩], by omega, by go_num, by simp, HP, by simp; omega, o3, hX3⟩
                case measure => simp [intOf]; omega
            · by_cases d4 : hi < xh
              · have HP : Hid (ll ++ [⟨hi + 1, xh⟩] = remL (L.take (k + 1)) lo hi) := Lib.hid (by rw [HST.out, remP, if_neg (show ¬ (xh < lo ∨ hi < xl) by omega), if_neg d3, if_pos d4]; simp)
                clear HST
                go_wp2_with (at_builtin; refine wpList_append_apart rfl _ _ 90 rfl V.heap.size 94 i0 _ 2 16 Try.underlying90 hi0 hz0 hzz1 hzz2 rfl (by decide) _ ll.length _ rfl (own_ext ho1 ((ext_alloc wr _).trans (ext_alloc _ _))) ⟨wr.heap.size + 1, 0, none⟩ 1 1 [.int .i64 (hi + 1), .int .i64 (xh)] rfl rfl (news_row2 wr _ _ _ _) (by intro u hu; simp only [List.mem_cons, List.not_mem_nil, or_false] at hu; rcases hu with rfl | rfl <;> rfl) (by decide) (by simp [maxLen]; omega) (by omega) (by simp; omega) ?_; intro v' w3 ho3 hc3)
                have hEA : Ext wr ((wr.alloc (Obj.cells #[.int .i64 xl, .int .i64 xh] 94)).alloc (Obj.cells #[.int .i64 (hi + 1), .int .i64 (xh)] 94)) := (ext_alloc wr _).trans (ext_alloc _ _)
                obtain ⟨A3, c3, rfl, o3, hx3⟩ := push1i (x := ⟨hi + 1, xh⟩) (own_ext ho1 hEA) ho3 hc3
                have hX3 := hx3.to_ext (hX.trans hEA) (fun q o h => h.1)
                clear ho3 hc3 hx3 hEA hX ho1 ex hxbk
                go_wp2
                go_roundw
                case rel => exact ⟨k + 1, A3, c3, ll ++ [⟨hi + 1, xh⟩], by omega, by go_num, by simp, HP, by simp; omega, o3, hX3⟩
                case measure => simp [intOf]; omega
              · have HP : Hid (ll = remL (L.take (k + 1)) lo hi) := Lib.hid (by rw [HST.out, remP, if_neg (show ¬ (xh < lo ∨ hi < xl) by omega), if_neg d3, if_neg d4]; simp)
                clear HST
                have o1 := ho1.ext ex
                have hX3 := hX.trans ex
                go_wp2
                go_roundw
                case rel => exact ⟨k + 1, A1, c1, ll, by omega, by go_num, rfl, HP, by omega, o1, hX3⟩
                case measure => simp [intOf]; omega
      · obtain rfl : k = L.length := by omega
        rw [List.take_length] at HF
        have hok := remL_ok hS.wf lo hi hle
        have hbd : ∀ y ∈ remL L lo hi, Bdi y := remL_mem (Q := Bdi) hS.bd (fun x hq h => by
          obtain ⟨⟨a1, a2⟩, a3, a4⟩ := hq
          exact ⟨⟨a1, a2⟩, by simp only; omega, by simp only; omega⟩) (fun x hq h => by
          obtain ⟨⟨a1, a2⟩, a3, a4⟩ := hq
          exact ⟨⟨by simp only; omega, by simp only; omega⟩, a3, a4⟩)
        rw [← HF.out] at hok hbd
        have hVs := hE.size
        have hXs := hX.size
        have hEr := hE.trans hX
        have hn2 := hX.blk hnv
        have hK2 := hX.blk hKE
        have hp2 := hX.blk hS1.hd
        have c0 := cell_of_row wr p 0 _ _ _ hp2
        have f0 := frozen_of_row wr p 0 _ _ hp2
        simp only [List.getElem?_toArray, List.getElem?_cons_zero] at c0
        have hp3 := heap_setCell_same wr p 0 _ _ (.slice A1 ll.length c1) hp2
        have hn3 := (Below.heap_setCell wr ⟨p, 0, none⟩ (.slice A1 ll.length c1) w.heap.size (show w.heap.size ≠ p by omega)).trans hn2
        have hK3 := (Below.heap_setCell wr ⟨p, 0, none⟩ (.slice A1 ll.length c1) E (show E ≠ p by omega)).trans hK2
        have c1' := cell_of_row _ w.heap.size 0 _ _ _ hn3
        simp only [List.getElem?_toArray, List.getElem?_cons_zero] at c1'
        have hw64 : IntKind.i64.wrap n = n := by rw [IntKind.wrap_i64]; omega
        have hx3 := setCell_exc wr p 0 (.slice A1 ll.length c1)
        have hx4 : Exc (fun q _ => q = p) w ((wr.setCell ⟨p, 0, none⟩ (.slice A1 ll.length c1)).putObj E (.deferred none)) := exc_grown_new ((Exc.of_ext hEr).trans hx3) (grownBy_putObj' _ E _) (fun q h => by injection h with h; omega)
        have hx5 : Exc (fun q o => q = p ∨ o.isCells = false) wr ((wr.setCell ⟨p, 0, none⟩ (.slice A1 ll.length c1)).putObj E (.deferred none)) :=
          Exc.trans ⟨hx3.os, hx3.tape, hx3.output, hx3.size, fun k o hk hd => hx3.block k o hk (fun h => hd (.inl h))⟩ (Exc.of_grown (grownBy_putObj' _ E _) (fun g o h1 h2 => by injection h1 with h1; subst h1; rw [hK3] at h2; injection h2 with h2; subst h2; exact .inr rfl))
        have hro := own_exc ho1 hx5 (fun q cs hq h => by
          rcases h with h | h
          · omega
          · simp [Obj.isCells] at h)
        clear hK2 hn2 hp2 hx3 hx5 q1
        gi_wp2
        refine ⟨by simp, .inl ⟨_, _, rfl, run_takeDeferred hK3, ?_⟩⟩
        refine ⟨_, results_tmp rfl _ _ _, A1, c1, ?_, ?_, hx4, ?_⟩
        · rw [HNN.out]
          first | rfl | simp [hw64]
        · rw [← HF.out]
          exact ⟨(World.putObj_heap_other (show p ≠ E by omega)).trans hp3, own_mono hro (by omega), hok.1, hbd⟩
        · rw [← HF.out]
          exact own_mono hro (by omega)
theorem rem_anyi {B p c : Nat} {A : Option Addr} {L : List Rn} {lo hi : Int} {w : World} (hS : SetAti B p A c w L) (hl : L.length ≤ 1000000) (hb : Bdi ⟨lo, hi⟩) (hpB : B ≤ p) (hBw : B ≤ w.heap.size) (hle : lo ≤ hi) :
    Calls Try.prog 71 #[.pointer (some ⟨p, 0, none⟩), .int .i64 lo, .int .i64 hi] w fun e w' => ∃ A' c', e = .returned (.int .i64 ((withinL L ⟨lo, hi⟩).foldl withZ 0)) ∧ SetAti B p A' c' w' (remL L lo hi) ∧ Exc (fun q _ => q = p) w w' :=
  (rem_anyFi hS hl hb hpB hBw hle).mono fun e w' ⟨A', c', h1, h2, h3, _⟩ => ⟨A', c', h1, h2, h3⟩
end Go.Proofs.Ytaalhicdeibodaa
