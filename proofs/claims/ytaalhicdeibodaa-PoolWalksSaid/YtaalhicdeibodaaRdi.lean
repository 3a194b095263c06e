/- Package runs, at int: Add. No condition but the bounds of the kind. -/
import Derived.Test.YtaalhicdeibodaaRbi
import Derived.Test.YtaalhicdeibodaaRci
namespace Go.Proofs.Ytaalhicdeibodaa
open Go.RowKit Go.Proofs Go.Shelf
set_option linter.unusedVariables false
attribute [local go_sem] Oper.semAt_some
set_option maxRecDepth 100000 in
set_option maxHeartbeats 2000000 in
theorem add_anyFi {B p c : Nat} {A : Option Addr} {L : List Rn} {lo hi : Int} {w : World} (hS : SetAti B p A c w L) (hl : L.length ≤ 1000000) (hb : Bdi ⟨lo, hi⟩) (hpB : B ≤ p) (hBw : B ≤ w.heap.size) (hle : lo ≤ hi) :
    Calls Try.prog 59 #[.pointer (some ⟨p, 0, none⟩), .int .i64 lo, .int .i64 hi] w fun e w' => ∃ A' c', e = .returned (.int .i64 ((gapsL (withinL L ⟨lo, hi⟩) ⟨lo, hi⟩).foldl withZ 0)) ∧ SetAti B p A' c' w' (addL L ⟨lo, hi⟩) ∧ Exc (fun q _ => q = p) w w' ∧ RowRi w.heap.size w' A' c' (addL L ⟨lo, hi⟩) := by
  refine (callsIn_wide (n := 0)).1 ?_
  refine callsIn_of_wp_marks Try.func59 rfl trivial ?_
  simp only [Try.ntmps59, List.size_toArray, List.length_cons, List.length_nil, Nat.reduceAdd, Nat.reduceSub, Array.replicate_succ, Array.replicate_zero, List.push_toArray, List.append_toArray, List.nil_append, List.cons_append]
  gi_wp2
  refine ⟨trivial, rfl, (callsIn_wide.2 (gaps_anyi (r := ⟨lo, hi⟩))).mono ?_⟩
  rintro e w' ⟨rfl, rfl⟩
  gi_wp2
  refine wpIn_cut (fun V => Ext w V ∧ V.heap.size = w.heap.size + 4 ∧ V.heap[w.heap.size]? = some (.cells #[.int .i64 lo, .int .i64 hi] 94 (0, 0)) ∧ V.heap[w.heap.size + 1]? = some (.cells #[.int .u64 0] 98 (0, 0)) ∧ V.heap[w.heap.size + 1 + 1]? = some (.cells #[.pointer (some ⟨p, 0, none⟩)] 70 (0, 0)) ∧ V.heap[w.heap.size + 1 + 1 + 1]? = some (.cells #[.int .i64 lo, .int .i64 hi] 94 (0, 0)))
    ⟨(ext_alloc _ _).trans ((ext_alloc _ _).trans ((ext_alloc _ _).trans (ext_alloc _ _))), alloc4_ati _ _ _ _ _⟩ ?_
  rintro w1 ⟨hE1, hz1, b0, b1, b2, b3⟩
  have hplt := (Array.getElem?_eq_some_iff.1 hS.hd).1
  have hrowlt : ∀ q, (Value.slice A L.length c).ownBlock = some q → q < w.heap.size := fun q hq => (World.ownsRow.lt hS.row q hq).2
  have hb2 := hb
  obtain ⟨⟨e1, e2⟩, e3, e4⟩ := hb
  simp only at e1 e2 e3 e4
  refine wpIn_rangeX (α := Rn) rfl (enters_of Try.func72 (by kernel_rfl) rfl)
    (gaps_seqi (p := p) (r := ⟨lo, hi⟩) (Dk := fun q => q = w.heap.size + 1) b2 b3 (hS.ext hE1) hl (fun _ => by omega) hb2 (fun q h => by omega) (by omega) (by omega) (by omega) (fun q hq h => by have := hrowlt q hq; omega) (by omega) (by omega) (fun h => by have := hrowlt _ h; omega))
    (fun q h => by omega) (fun q h => by omega) (fun _ => rfl)
    (fun pre V => Ext w V ∧ V.heap[w.heap.size]? = some (.cells #[.int .i64 lo, .int .i64 hi] 94 (0, 0)) ∧ V.heap[w.heap.size + 1]? = some (.cells #[.int .u64 (pre.foldl withZ 0)] 98 (0, 0)) ∧ 0 ≤ pre.foldl withZ 0 ∧ pre.foldl withZ 0 ≤ 9223372036854775807)
    (fun _ _ _ => False) ?hI ?hIx ?h0
    (fun x a' V => ∃ xb, w1.heap.size ≤ xb ∧ V.heap[xb]? = some (.cells #[.int .i64 x.lo, .int .i64 x.hi] 94 (0, 0)) ∧ a' = { tmps := #[Value.pointer (some ⟨p, 0, none⟩), .int .i64 lo, .int .i64 hi, undef, undef, undef, .int .i64 0, .pointer (some ⟨w.heap.size, 0, none⟩), .pointer (some ⟨w.heap.size + 1, 0, none⟩), .pointer (some ⟨xb, 0, none⟩), undef, undef, undef, undef, .int .i64 lo, .int .i64 hi, .bool (decide (hi < lo)), .int .i64 lo, .int .i64 hi, .agg #[.int .i64 lo, .int .i64 hi], .pointer (some ⟨p, 0, none⟩), .agg #[.int .i64 lo, .int .i64 hi],
      .func (.func 72) #[] #[.pointer (some ⟨w.heap.size + 1 + 1, 0, none⟩), .pointer (some ⟨w.heap.size + 1 + 1 + 1, 0, none⟩)], .agg #[.int .i64 x.lo, .int .i64 x.hi], undef, undef, undef, undef, undef, undef, undef, undef, undef, undef, undef, undef, undef, undef, undef, undef, undef, undef, undef, undef, undef, undef, undef, undef, undef, undef, undef, undef, undef, undef, undef, undef, undef, undef, undef, undef, undef, undef, undef, undef, undef, undef, undef, undef, undef, undef, undef, undef, undef, undef, undef, undef, undef, undef, undef, undef, undef, undef, undef, undef, undef, undef, undef, undef, undef, undef, undef, undef, undef, undef, undef, undef], defers := [] })
    ?hAx ?assign ?body ?done ?stop
  case hI =>
    rintro s A' B' row ⟨x1, x2, x3, x4⟩ hg hrw
    have hlow : ∀ q, row = some q → w.heap.size ≤ q ∧ q ≠ w.heap.size ∧ q ≠ w.heap.size + 1 := fun q e => by
      rcases hrw q e with h | ⟨h, _⟩ <;> omega
    refine ⟨Below.grown x1 hg x1.size (fun q e => (hlow q e).1), ?_, ?_, x4⟩
    · exact (hg.block _ (Array.getElem?_eq_some_iff.1 x2).1 (fun e => (hlow _ e.symm).2.1 rfl)).trans x2
    · exact (hg.block _ (Array.getElem?_eq_some_iff.1 x3).1 (fun e => (hlow _ e.symm).2.2 rfl)).trans x3
  case hIx => exact fun _ _ _ _ _ h _ _ => h
  case h0 => exact ⟨hE1, b0, b1, by decide, by decide⟩
  case hAx =>
    rintro x a' A' B' row ⟨xb, y1, y2, y3⟩ hg hrw
    exact ⟨xb, y1, cells_abide (C := 0) hg (fun q e => .inr ⟨Nat.zero_le _, hrw q e⟩) y2, y3⟩
  case assign =>
    intro l2 x V K hsz hK
    gi_wp2
    exact hK _ _ (ext_alloc _ _) ⟨V.heap.size, hsz, heap_alloc_new _ _, rfl⟩
  case body =>
    rintro l2 pre x a' V ⟨hE, hrv, hnv, hn0, hn1⟩ ⟨xb, hxb, hxc, rfl⟩ hpre hsz
    have hxm : x ∈ gapsL (withinL L ⟨lo, hi⟩) ⟨lo, hi⟩ := by obtain ⟨t, ht⟩ := hpre; rw [← ht]; simp
    obtain ⟨m1, m2, m3⟩ := gaps_ok _ lo hi hle (fun y hy => by obtain ⟨a1, a2, a3, _⟩ := within_mem hy; exact ⟨a1, a3, a2⟩) lo (Int.le_refl _) hle x hxm
    have hbx : Bdi x := ⟨⟨by omega, by omega⟩, by omega, by omega⟩
    have hfs : (pre ++ [x]).foldl withZ 0 = withZ (pre.foldl withZ 0) x := by rw [List.foldl_append]; rfl
    have HF := Lib.hid hfs
    clear hfs hpre hxm
    generalize pre.foldl withZ 0 = n at *
    have q0 := cell_of_row V xb 0 _ _ _ hxc
    have q1 := cell_of_row V xb 1 _ _ _ hxc
    have q2 := cell_of_row V (w.heap.size + 1) 0 _ _ _ hnv
    simp only [List.getElem?_toArray, List.getElem?_cons_zero, List.getElem?_cons_succ] at q0 q1 q2
    have hzb := withZ_bd ⟨hn0, hn1⟩ m1
    gi_wp2
    refine ⟨trivial, rfl, (CallsIn.inRound l2 (callsIn_wide.2 (with_anyi (r := x) hbx m1 ⟨hn0, hn1⟩))).mono ?_⟩
    rintro e V2 ⟨rfl, hE2⟩
    have k1 := hE2.blk hnv
    have q2' := cell_of_row V2 (w.heap.size + 1) 0 _ _ _ k1
    have f2' := frozen_of_row V2 (w.heap.size + 1) 0 _ _ k1
    simp only [List.getElem?_toArray, List.getElem?_cons_zero] at q2'
    have k0 := (Below.heap_setCell V2 ⟨w.heap.size + 1, 0, none⟩ (.int .u64 (withZ n x)) w.heap.size (by simp)).trans (hE2.blk hrv)
    have k1' := heap_setCell_same V2 (w.heap.size + 1) 0 _ _ (.int .u64 (withZ n x)) k1
    have hgr : V2.grownBy (V2.setCell ⟨w.heap.size + 1, 0, none⟩ (.int .u64 (withZ n x))) (some (w.heap.size + 1)) := ⟨rfl, rfl, rfl, by simp [World.setCell], fun k hk hn => Below.heap_setCell V2 _ _ k (by rintro rfl; exact hn rfl)⟩
    have hEE : Ext w (V2.setCell ⟨w.heap.size + 1, 0, none⟩ (.int .u64 (withZ n x))) := ext_only (hE.trans hE2) hgr (by omega)
    have hXX : RoundX (fun q => q = w.heap.size + 1) w1.heap.size V (V2.setCell ⟨w.heap.size + 1, 0, none⟩ (.int .u64 (withZ n x))) := (RoundX.of_ext hE2).trans (Exc.of_grown hgr (fun q o h _ => by injection h with h; exact .inl h.symm))
    clear q0 q1 q2 hrv hnv k1 hxc hE hE2 hgr
    gi_wp2
    exact ⟨hXX, hEE, k0, by rw [HF.out]; exact k1', by rw [HF.out]; exact hzb.1, by rw [HF.out]; exact hzb.2⟩
  case stop => exact fun _ _ _ _ _ h => h.elim
  case done =>
    rintro E xs V rfl ⟨hE, hrv, hnv, hn0, hn1⟩ hEs hKE
    obtain ⟨n, hn⟩ : ∃ n, (gapsL (withinL L ⟨lo, hi⟩) ⟨lo, hi⟩).foldl withZ 0 = n := ⟨_, rfl⟩
    rw [hn] at hnv hn0 hn1
    have HNN := Lib.hid hn
    clear hn
    have hS1 := hS.ext hE
    have q1 := cell_of_row V p 0 _ _ _ hS1.hd
    simp only [List.getElem?_toArray, List.getElem?_cons_zero] at q1
    obtain ⟨i0, hi0, hz0, hzz1, hzz2⟩ := info_parts infoRi
    gi_wp2
    gi_loopw [10, 11, 32] (fun va vb i wr => ∃ (k : Nat) (A1 : Option Addr) (c1 : Nat) (A2 : Option Addr) (c2 : Nat) (bl : List Rn) (rr : Rn) (ab : List Rn), k ≤ L.length ∧ i = .int .i64 k ∧ va = .slice A1 bl.length c1 ∧ vb = .slice A2 ab.length c2 ∧ Hid ((L.take k).foldl AddS.step ⟨[], ⟨lo, hi⟩, []⟩ = ⟨bl, rr, ab⟩) ∧ bl.length + ab.length ≤ k ∧ Bdi rr ∧ rr.lo ≤ rr.hi ∧
      RowRi V.heap.size wr A1 c1 bl ∧ RowRi V.heap.size wr A2 c2 ab ∧ Hid (∀ q, (Value.slice A1 bl.length c1).ownBlock = some q → (Value.slice A2 ab.length c2).ownBlock ≠ some q) ∧ wr.heap[w.heap.size]? = some (.cells #[.int .i64 rr.lo, .int .i64 rr.hi] 94 (0, 0)) ∧ Exc (fun q _ => q = w.heap.size) V wr) (fun _ _ i _ => L.length - (intOf i).toNat)
    case atStart => exact ⟨0, none, 0, none, 0, [], ⟨lo, hi⟩, [], Nat.zero_le _, rfl, rfl, rfl, Lib.hid rfl, Nat.le_refl _, hb2, hle, World.ownsRow_nil _ _ _ _, World.ownsRow_nil _ _ _ _, Lib.hid (fun q h => by cases h), hrv, exc_refl _ _⟩
    case round =>
      obtain ⟨k, A1, c1, A2, c2, bl, rr, ab, hk, rfl, rfl, rfl, HF, hlen, hbr, hrle, ho1, ho2, hns, hrr, hX⟩ := hrel
      by_cases hlt : k < L.length
      · obtain ⟨x, hx⟩ : ∃ x, L[k]? = some x := ⟨_, List.getElem?_eq_getElem hlt⟩
        have hEr := hX.to_ext hE (fun q o h => by omega)
        obtain ⟨g, rfl, hlc, hBg, cx0, cx1⟩ := (hS.row.ext hEr).at hx
        have hkc : k < c := by omega
        have hbx := hS.bd x (List.mem_of_getElem? hx)
        have hwx := hS.wf.each x (List.mem_of_getElem? hx)
        have hst := foldl_snoc hx ⟨[], ⟨lo, hi⟩, []⟩
        rw [HF.out, step_mk] at hst
        have HST := Lib.hid hst
        clear hst hx HF
        obtain ⟨xl, xh⟩ := x
        obtain ⟨rl, rh⟩ := rr
        obtain ⟨⟨x1, x2⟩, x3, x4⟩ := hbx
        have hbr2 := hbr
        obtain ⟨⟨r1, r2⟩, r3, r4⟩ := hbr2
        simp only at x1 x2 x3 x4 r1 r2 r3 r4 hwx hrle
        have q0 := cell_of_row _ w.heap.size 0 _ _ _ ((ext_alloc wr (Obj.cells #[.int .i64 xl, .int .i64 xh] 94)).blk hrr)
        have q1 := cell_of_row _ w.heap.size 1 _ _ _ ((ext_alloc wr (Obj.cells #[.int .i64 xl, .int .i64 xh] 94)).blk hrr)
        simp only [List.getElem?_toArray, List.getElem?_cons_zero, List.getElem?_cons_succ] at q0 q1
        have hVs := hE.size
        have hVlt : w.heap.size < V.heap.size := (Array.getElem?_eq_some_iff.1 hrv).1
        refine wpIn_wide.2 ?_
        by_cases d1 : xh + 1 < rl
        · have HST3 : Hid ((L.take (k + 1)).foldl AddS.step ⟨[], ⟨lo, hi⟩, []⟩ = ⟨bl ++ [⟨xl, xh⟩], ⟨rl, rh⟩, ab⟩) := Lib.hid (by rw [HST.out, if_pos d1])
          have d2 : xh < rl := by omega
          clear HST
          go_wp2_with (at_builtin; refine wpList_append_apart rfl _ _ 90 rfl V.heap.size 94 i0 _ 2 16 Try.underlying90 hi0 hz0 hzz1 hzz2 rfl (by decide) _ bl.length _ rfl (own_ext ho1 ((ext_alloc wr _).trans (ext_alloc _ _))) ⟨wr.heap.size + 1, 0, none⟩ 1 1 [.int .i64 xl, .int .i64 xh] rfl rfl (news_row2 wr _ _ _ _) (by intro u hu; simp only [List.mem_cons, List.not_mem_nil, or_false] at hu; rcases hu with rfl | rfl <;> rfl) (by decide) (by simp [maxLen]; omega) (by omega) (by have := hX.size; simp; omega) ?_; intro v' w3 ho3 hc3)
          have hEA : Ext wr ((wr.alloc (Obj.cells #[.int .i64 xl, .int .i64 xh] 94)).alloc (Obj.cells #[.int .i64 xl, .int .i64 xh] 94)) := (ext_alloc wr _).trans (ext_alloc _ _)
          obtain ⟨row, hg3, hr3⟩ := grown_row (own_ext ho1 hEA) hc3
          obtain ⟨oo, hs3⟩ := sep_push (own_ext ho1 hEA) (own_ext ho2 hEA) hns.out hc3
          have hX3 := exc_grown_new (hX.trans (Exc.of_ext hEA)) hg3 (fun q h => (hr3 q h).1)
          have hrr3 := (hg3.block w.heap.size (by have := hEA.size; have := hX.size; omega) (fun e => by have := (hr3 _ e.symm).1; omega)).trans (hEA.blk hrr)
          obtain ⟨A3, c3, rfl⟩ := slice_of_own ho3
          have o3 : RowRi V.heap.size w3 A3 c3 (bl ++ [⟨xl, xh⟩]) := by
            unfold RowRi
            rw [List.length_append, List.flatMap_append]
            exact ho3
          clear hg3 hr3 ho3 hc3 hrr hX ho1 ho2 hEA
          go_wp2
          go_roundw
          case rel => exact ⟨k + 1, A3, c3, A2, c2, bl ++ [⟨xl, xh⟩], ⟨rl, rh⟩, ab, by omega, by go_num, by simp, rfl, HST3, by simp; omega, hbr, hrle, o3, oo, Lib.hid (fun q hq => hs3 q (by simpa using hq)), hrr3, hX3⟩
          case measure => simp [intOf]; omega
        · by_cases d3 : rh + 1 < xl
          · have HST3 : Hid ((L.take (k + 1)).foldl AddS.step ⟨[], ⟨lo, hi⟩, []⟩ = ⟨bl, ⟨rl, rh⟩, ab ++ [⟨xl, xh⟩]⟩) := Lib.hid (by rw [HST.out, if_neg d1, if_pos d3])
            have d2 : ¬ xh < rl := by omega
            have d4 : rh < xl := by omega
            have d5 : rh < xl - 1 := by omega
            clear HST
            go_wp2_with (at_builtin; refine wpList_append_apart rfl _ _ 90 rfl V.heap.size 94 i0 _ 2 16 Try.underlying90 hi0 hz0 hzz1 hzz2 rfl (by decide) _ ab.length _ rfl (own_ext ho2 ((ext_alloc wr _).trans (ext_alloc _ _))) ⟨wr.heap.size + 1, 0, none⟩ 1 1 [.int .i64 xl, .int .i64 xh] rfl rfl (news_row2 wr _ _ _ _) (by intro u hu; simp only [List.mem_cons, List.not_mem_nil, or_false] at hu; rcases hu with rfl | rfl <;> rfl) (by decide) (by simp [maxLen]; omega) (by omega) (by have := hX.size; simp; omega) ?_; intro v' w3 ho3 hc3)
            have hEA : Ext wr ((wr.alloc (Obj.cells #[.int .i64 xl, .int .i64 xh] 94)).alloc (Obj.cells #[.int .i64 xl, .int .i64 xh] 94)) := (ext_alloc wr _).trans (ext_alloc _ _)
            obtain ⟨row, hg3, hr3⟩ := grown_row (own_ext ho2 hEA) hc3
            obtain ⟨oo, hs3⟩ := sep_push (own_ext ho2 hEA) (own_ext ho1 hEA) (fun q h1 h2 => hns.out q h2 h1) hc3
            have hX3 := exc_grown_new (hX.trans (Exc.of_ext hEA)) hg3 (fun q h => (hr3 q h).1)
            have hrr3 := (hg3.block w.heap.size (by have := hEA.size; have := hX.size; omega) (fun e => by have := (hr3 _ e.symm).1; omega)).trans (hEA.blk hrr)
            obtain ⟨A3, c3, rfl⟩ := slice_of_own ho3
            have o3 : RowRi V.heap.size w3 A3 c3 (ab ++ [⟨xl, xh⟩]) := by
              unfold RowRi
              rw [List.length_append, List.flatMap_append]
              exact ho3
            clear hg3 hr3 ho3 hc3 hrr hX ho1 ho2 hEA
            go_wp2
            go_roundw
            case rel => exact ⟨k + 1, A1, c1, A3, c3, bl, ⟨rl, rh⟩, ab ++ [⟨xl, xh⟩], by omega, by go_num, rfl, by simp, HST3, by simp; omega, hbr, hrle, oo, o3, Lib.hid (fun q h1 h2 => hs3 q (by simpa using h2) h1), hrr3, hX3⟩
            case measure => simp [intOf]; omega
          · have HST3 : Hid ((L.take (k + 1)).foldl AddS.step ⟨[], ⟨lo, hi⟩, []⟩ = ⟨bl, ⟨min rl xl, max rh xh⟩, ab⟩) := Lib.hid (by rw [HST.out, if_neg d1, if_neg d3])
            clear HST
            by_cases d2 : xh < rl
            · have d4 : ¬ rh < xl := by omega
              go_wp2
              refine wp_cut (fun W' => Ext wr W' ∧ W'.heap[wr.heap.size]? = some (.cells #[.int .i64 xl, .int .i64 xh] 94 (0, 0))) ⟨ext_alloc _ _, heap_alloc_new _ _⟩ ?_
              rintro w2 ⟨hE2, hxb⟩
              have hrr2 := hE2.blk hrr
              have hsz2 : w.heap.size < V.heap.size := by omega
              have hszr := hX.size
              refine wp_region_rg (Exc fun q _ => q = w.heap.size) (rel_exc _) (fun W => W.heap[w.heap.size]? = some (.cells #[.int .i64 rl, .int .i64 rh] 94 (0, 0))) [0, 1, 2, 3, 4, 5, 6, 7, 8, 9, 10, 11, 12, 13] (fun _ => none) (fun i => match i with
                | 11 => some fun _ _ W => W.heap[w.heap.size]? = some (.cells #[.int .i64 (min rl xl), .int .i64 rh] 94 (0, 0))
                | 13 => some fun _ _ W => W.heap[w.heap.size]? = some (.cells #[.int .i64 (min rl xl), .int .i64 (max rh xh)] 94 (0, 0))
                | _ => none) (fun i => match i with | 1 => true | 6 => true | _ => false) (by kernel_rfl) (by kernel_rfl) (fun _ _ h he => he.blk h) hrr2 (fun W N hW hF0 hN => ?_)
              have hEW : Exc (fun q _ => q = w.heap.size) w2 W := Exc.of_ext hW
              have hm1 : (if xl < rl then xl else rl) = min rl xl := by split <;> omega
              have hm2 : (if rh < xh then xh else rh) = max rh xh := by split <;> omega
              have e0 : ∀ w', Ext W w' → w'.cell? ⟨w.heap.size, 0, none⟩ = some (.int .i64 rl) := fun w' h => cell_of_row _ _ _ _ _ _ ((hW.trans h).blk hrr2)
              have e1 : ∀ w', Ext W w' → w'.cell? ⟨w.heap.size, 1, none⟩ = some (.int .i64 rh) := fun w' h => cell_of_row _ _ _ _ _ _ ((hW.trans h).blk hrr2)
              have e2 : ∀ w', Exc (fun q _ => q = w.heap.size) W w' → w'.cell? ⟨wr.heap.size, 0, none⟩ = some (.int .i64 xl) := fun w' h => cell_of_row _ _ _ _ _ _ ((hEW.trans h).blk hxb (by omega))
              have e3 : ∀ w', Exc (fun q _ => q = w.heap.size) W w' → w'.cell? ⟨wr.heap.size, 1, none⟩ = some (.int .i64 xh) := fun w' h => cell_of_row _ _ _ _ _ _ ((hEW.trans h).blk hxb (by omega))
              repeat (first | (apply wpR_one; (case ho => (simp only [List.getElem?_toArray, List.getElem?_cons_succ, List.getElem?_cons_zero]; try exact rfl)); (case hw => rfl); (case hl => rfl); (case hsp => rfl); (case he => rfl); (case hv => (intro w' hw'; (try (have hw2 := Ext.trans hEW hw')); (try (have hw3 := Exc.trans hEW hw')); (try (have hw4 := Exk.trans hEW hw')); (try (have hw5 := Mrk.trans hEW hw')); go_simp; exact rfl)); (case hw0 => (first | exact Below.refl _ _ | exact Exc.of_ext (Below.refl _ _) | exact Exk.of_ext (Below.refl _ _) | exact Mrk.of_ext (Below.refl _ _))); simp only [Act.put, List.setIfInBounds_toArray, List.set_cons_succ, List.set_cons_zero]) | (apply wpR_early; (case ho => (simp only [List.getElem?_toArray, List.getElem?_cons_succ, List.getElem?_cons_zero]; try exact rfl)); (case hw => rfl); (case hl => rfl); (case hsp => rfl); (case he => rfl); (case hv => (intro w' hw'; (try have hw2 := Ext.trans hEW hw'); go_simp; exact rfl)); simp only [Act.put, List.setIfInBounds_toArray, List.set_cons_succ, List.set_cons_zero]) | (apply wpR_pass; (case ho => (simp only [List.getElem?_toArray, List.getElem?_cons_succ, List.getElem?_cons_zero]; try exact rfl)); (case hw => rfl); (case hl => rfl); simp only [Act.put, List.setIfInBounds_toArray, List.set_cons_succ, List.set_cons_zero]))
              refine wpR_late (by ((simp only [List.getElem?_toArray, List.getElem?_cons_succ, List.getElem?_cons_zero]; try exact rfl))) _ rfl rfl (fun V v => fun _ _ h he => he.blk h) (fun V V' h => rfl) (fun w' hw' hK hF => ?_) (fun v hv => ?_)
              · have hF2 : w'.heap[w.heap.size]? = some (.cells #[.int .i64 rl, .int .i64 rh] 94 (0, 0)) := hF
                have c4 := cell_of_row w' w.heap.size 0 _ _ _ hF2
                have f4 := frozen_of_row w' w.heap.size 0 _ _ hF2
                have hb := heap_setCell_same w' w.heap.size 0 _ _ (.int .i64 (min rl xl)) hF2
                clear hF hF2 e0 e1 e2 e3
                unfold opAt
                go_simp
                exact ⟨undef, rfl, setCell_exc _ _ _ _, hb⟩
              clear hv
              simp only [Act.put, List.setIfInBounds_toArray, List.set_cons_succ, List.set_cons_zero]
              repeat (first | (apply wpR_one; (case ho => (simp only [List.getElem?_toArray, List.getElem?_cons_succ, List.getElem?_cons_zero]; try exact rfl)); (case hw => rfl); (case hl => rfl); (case hsp => rfl); (case he => rfl); (case hv => (intro w' hw'; (try (have hw2 := Ext.trans hEW hw')); (try (have hw3 := Exc.trans hEW hw')); (try (have hw4 := Exk.trans hEW hw')); (try (have hw5 := Mrk.trans hEW hw')); go_simp; exact rfl)); (case hw0 => (first | exact Below.refl _ _ | exact Exc.of_ext (Below.refl _ _) | exact Exk.of_ext (Below.refl _ _) | exact Mrk.of_ext (Below.refl _ _))); simp only [Act.put, List.setIfInBounds_toArray, List.set_cons_succ, List.set_cons_zero]) | (apply wpR_early; (case ho => (simp only [List.getElem?_toArray, List.getElem?_cons_succ, List.getElem?_cons_zero]; try exact rfl)); (case hw => rfl); (case hl => rfl); (case hsp => rfl); (case he => rfl); (case hv => (intro w' hw'; (try have hw2 := Ext.trans hEW hw'); go_simp; exact rfl)); simp only [Act.put, List.setIfInBounds_toArray, List.set_cons_succ, List.set_cons_zero]) | (apply wpR_pass; (case ho => (simp only [List.getElem?_toArray, List.getElem?_cons_succ, List.getElem?_cons_zero]; try exact rfl)); (case hw => rfl); (case hl => rfl); simp only [Act.put, List.setIfInBounds_toArray, List.set_cons_succ, List.set_cons_zero]))
              refine wpR_late (by ((simp only [List.getElem?_toArray, List.getElem?_cons_succ, List.getElem?_cons_zero]; try exact rfl))) _ rfl rfl (fun V v => fun _ _ h he => he.blk h) (fun V V' h => rfl) (fun w' hw' hK hF => ?_) (fun v hv => ?_)
              · have hF2 : w'.heap[w.heap.size]? = some (.cells #[.int .i64 (min rl xl), .int .i64 rh] 94 (0, 0)) := hF
                have c4 := cell_of_row w' w.heap.size 1 _ _ _ hF2
                have f4 := frozen_of_row w' w.heap.size 1 _ _ hF2
                have hb := heap_setCell_same w' w.heap.size 1 _ _ (.int .i64 (max rh xh)) hF2
                clear hF hF2 e0 e1 e2 e3
                unfold opAt
                go_simp
                exact ⟨undef, rfl, setCell_exc _ _ _ _, hb⟩
              clear hv
              simp only [Act.put, List.setIfInBounds_toArray, List.set_cons_succ, List.set_cons_zero]
              apply wpR_nil
              apply hN
              intro w3 hE3 hK hF
              have hrr3 : w3.heap[w.heap.size]? = some (.cells #[.int .i64 (min rl xl), .int .i64 (max rh xh)] 94 (0, 0)) := hF
              have hX3 := ((hX.trans (Exc.of_ext hE2)).trans hEW).trans hE3
              have o1 := own_exc (own_ext ho1 hE2) (hEW.trans hE3) (fun q o h => by omega)
              have o2 := own_exc (own_ext ho2 hE2) (hEW.trans hE3) (fun q o h => by omega)
              have hbr3 : Bdi ⟨min rl xl, max rh xh⟩ := ⟨by constructor <;> simp only <;> omega, by constructor <;> simp only <;> omega⟩
              have hrl3 : min rl xl ≤ max rh xh := by omega
              clear hm1 hm2 hK hN hF e0 e1 e2 e3 hEW hE3 hW hF0 hrr hrr2 hX ho1 ho2 hE2 hxb
              go_wp2
              go_roundw
              case rel => exact ⟨k + 1, A1, c1, A2, c2, bl, ⟨min rl xl, max rh xh⟩, ab, by omega, by go_num, rfl, rfl, HST3, by omega, hbr3, hrl3, o1, o2, hns, hrr3, hX3⟩
              case measure => simp [intOf]; omega
            · by_cases d4 : rh < xl
              · have d5 : ¬ rh < xl - 1 := by omega
                go_wp2
                refine wp_cut (fun W' => Ext wr W' ∧ W'.heap[wr.heap.size]? = some (.cells #[.int .i64 xl, .int .i64 xh] 94 (0, 0))) ⟨ext_alloc _ _, heap_alloc_new _ _⟩ ?_
                rintro w2 ⟨hE2, hxb⟩
                have hrr2 := hE2.blk hrr
                have hsz2 : w.heap.size < V.heap.size := by omega
                have hszr := hX.size
                refine wp_region_rg (Exc fun q _ => q = w.heap.size) (rel_exc _) (fun W => W.heap[w.heap.size]? = some (.cells #[.int .i64 rl, .int .i64 rh] 94 (0, 0))) [0, 1, 2, 3, 4, 5, 6, 7, 8, 9, 10, 11, 12, 13] (fun _ => none) (fun i => match i with
                  | 11 => some fun _ _ W => W.heap[w.heap.size]? = some (.cells #[.int .i64 (min rl xl), .int .i64 rh] 94 (0, 0))
                  | 13 => some fun _ _ W => W.heap[w.heap.size]? = some (.cells #[.int .i64 (min rl xl), .int .i64 (max rh xh)] 94 (0, 0))
                  | _ => none) (fun i => match i with | 1 => true | 6 => true | _ => false) (by kernel_rfl) (by kernel_rfl) (fun _ _ h he => he.blk h) hrr2 (fun W N hW hF0 hN => ?_)
                have hEW : Exc (fun q _ => q = w.heap.size) w2 W := Exc.of_ext hW
                have hm1 : (if xl < rl then xl else rl) = min rl xl := by split <;> omega
                have hm2 : (if rh < xh then xh else rh) = max rh xh := by split <;> omega
                have e0 : ∀ w', Ext W w' → w'.cell? ⟨w.heap.size, 0, none⟩ = some (.int .i64 rl) := fun w' h => cell_of_row _ _ _ _ _ _ ((hW.trans h).blk hrr2)
                have e1 : ∀ w', Ext W w' → w'.cell? ⟨w.heap.size, 1, none⟩ = some (.int .i64 rh) := fun w' h => cell_of_row _ _ _ _ _ _ ((hW.trans h).blk hrr2)
                have e2 : ∀ w', Exc (fun q _ => q = w.heap.size) W w' → w'.cell? ⟨wr.heap.size, 0, none⟩ = some (.int .i64 xl) := fun w' h => cell_of_row _ _ _ _ _ _ ((hEW.trans h).blk hxb (by omega))
                have e3 : ∀ w', Exc (fun q _ => q = w.heap.size) W w' → w'.cell? ⟨wr.heap.size, 1, none⟩ = some (.int .i64 xh) := fun w' h => cell_of_row _ _ _ _ _ _ ((hEW.trans h).blk hxb (by omega))
                repeat (first | (apply wpR_one; (case ho => (simp only [List.getElem?_toArray, List.getElem?_cons_succ, List.getElem?_cons_zero]; try exact rfl)); (case hw => rfl); (case hl => rfl); (case hsp => rfl); (case he => rfl); (case hv => (intro w' hw'; (try (have hw2 := Ext.trans hEW hw')); (try (have hw3 := Exc.trans hEW hw')); (try (have hw4 := Exk.trans hEW hw')); (try (have hw5 := Mrk.trans hEW hw')); go_simp; exact rfl)); (case hw0 => (first | exact Below.refl _ _ | exact Exc.of_ext (Below.refl _ _) | exact Exk.of_ext (Below.refl _ _) | exact Mrk.of_ext (Below.refl _ _))); simp only [Act.put, List.setIfInBounds_toArray, List.set_cons_succ, List.set_cons_zero]) | (apply wpR_early; (case ho => (simp only [List.getElem?_toArray, List.getElem?_cons_succ, List.getElem?_cons_zero]; try exact rfl)); (case hw => rfl); (case hl => rfl); (case hsp => rfl); (case he => rfl); (case hv => (intro w' hw'; (try have hw2 := Ext.trans hEW hw'); go_simp; exact rfl)); simp only [Act.put, List.setIfInBounds_toArray, List.set_cons_succ, List.set_cons_zero]) | (apply wpR_pass; (case ho => (simp only [List.getElem?_toArray, List.getElem?_cons_succ, List.getElem?_cons_zero]; try exact rfl)); (case hw => rfl); (case hl => rfl); simp only [Act.put, List.setIfInBounds_toArray, List.set_cons_succ, List.set_cons_zero]))
                refine wpR_late (by ((simp only [List.getElem?_toArray, List.getElem?_cons_succ, List.getElem?_cons_zero]; try exact rfl))) _ rfl rfl (fun V v => fun _ _ h he => he.blk h) (fun V V' h => rfl) (fun w' hw' hK hF => ?_) (fun v hv => ?_)
                · have hF2 : w'.heap[w.heap.size]? = some (.cells #[.int .i64 rl, .int .i64 rh] 94 (0, 0)) := hF
                  have c4 := cell_of_row w' w.heap.size 0 _ _ _ hF2
                  have f4 := frozen_of_row w' w.heap.size 0 _ _ hF2
                  have hb := heap_setCell_same w' w.heap.size 0 _ _ (.int .i64 (min rl xl)) hF2
                  clear hF hF2 e0 e1 e2 e3
                  unfold opAt
                  go_simp
                  exact ⟨undef, rfl, setCell_exc _ _ _ _, hb⟩
                clear hv
                simp only [Act.put, List.setIfInBounds_toArray, List.set_cons_succ, List.set_cons_zero]
                repeat (first | (apply wpR_one; (case ho => (simp only [List.getElem?_toArray, List.getElem?_cons_succ, List.getElem?_cons_zero]; try exact rfl)); (case hw => rfl); (case hl => rfl); (case hsp => rfl); (case he => rfl); (case hv => (intro w' hw'; (try (have hw2 := Ext.trans hEW hw')); (try (have hw3 := Exc.trans hEW hw')); (try (have hw4 := Exk.trans hEW hw')); (try (have hw5 := Mrk.trans hEW hw')); go_simp; exact rfl)); (case hw0 => (first | exact Below.refl _ _ | exact Exc.of_ext (Below.refl _ _) | exact Exk.of_ext (Below.refl _ _) | exact Mrk.of_ext (Below.refl _ _))); simp only [Act.put, List.setIfInBounds_toArray, List.set_cons_succ, List.set_cons_zero]) | (apply wpR_early; (case ho => (simp only [List.getElem?_toArray, List.getElem?_cons_succ, List.getElem?_cons_zero]; try exact rfl)); (case hw => rfl); (case hl => rfl); (case hsp => rfl); (case he => rfl); (case hv => (intro w' hw'; (try have hw2 := Ext.trans hEW hw'); go_simp; exact rfl)); simp only [Act.put, List.setIfInBounds_toArray, List.set_cons_succ, List.set_cons_zero]) | (apply wpR_pass; (case ho => (simp only [List.getElem?_toArray, List.getElem?_cons_succ, List.getElem?_cons_zero]; try exact rfl)); (case hw => rfl); (case hl => rfl); simp only [Act.put, List.setIfInBounds_toArray, List.set_cons_succ, List.set_cons_zero]))
                refine wpR_late (by ((simp only [List.getElem?_toArray, List.getElem?_cons_succ, List.getElem?_cons_zero]; try exact rfl))) _ rfl rfl (fun V v => fun _ _ h he => he.blk h) (fun V V' h => rfl) (fun w' hw' hK hF => ?_) (fun v hv => ?_)
                · have hF2 : w'.heap[w.heap.size]? = some (.cells #[.int .i64 (min rl xl), .int .i64 rh] 94 (0, 0)) := hF
                  have c4 := cell_of_row w' w.heap.size 1 _ _ _ hF2
                  have f4 := frozen_of_row w' w.heap.size 1 _ _ hF2
                  have hb := heap_setCell_same w' w.heap.size 1 _ _ (.int .i64 (max rh xh)) hF2
                  clear hF hF2 e0 e1 e2 e3
                  unfold opAt
                  go_simp
                  exact ⟨undef, rfl, setCell_exc _ _ _ _, hb⟩
                clear hv
                simp only [Act.put, List.setIfInBounds_toArray, List.set_cons_succ, List.set_cons_zero]
                apply wpR_nil
                apply hN
                intro w3 hE3 hK hF
                have hrr3 : w3.heap[w.heap.size]? = some (.cells #[.int .i64 (min rl xl), .int .i64 (max rh xh)] 94 (0, 0)) := hF
                have hX3 := ((hX.trans (Exc.of_ext hE2)).trans hEW).trans hE3
                have o1 := own_exc (own_ext ho1 hE2) (hEW.trans hE3) (fun q o h => by omega)
                have o2 := own_exc (own_ext ho2 hE2) (hEW.trans hE3) (fun q o h => by omega)
                have hbr3 : Bdi ⟨min rl xl, max rh xh⟩ := ⟨by constructor <;> simp only <;> omega, by constructor <;> simp only <;> omega⟩
                have hrl3 : min rl xl ≤ max rh xh := by omega
                clear hm1 hm2 hK hN hF e0 e1 e2 e3 hEW hE3 hW hF0 hrr hrr2 hX ho1 ho2 hE2 hxb
                go_wp2
                go_roundw
                case rel => exact ⟨k + 1, A1, c1, A2, c2, bl, ⟨min rl xl, max rh xh⟩, ab, by omega, by go_num, rfl, rfl, HST3, by omega, hbr3, hrl3, o1, o2, hns, hrr3, hX3⟩
                case measure => simp [intOf]; omega
              · skip
                go_wp2
                refine wp_cut (fun W' => Ext wr W' ∧ W'.heap[wr.heap.size]? = some (.cells #[.int .i64 xl, .int .i64 xh] 94 (0, 0))) ⟨ext_alloc _ _, heap_alloc_new _ _⟩ ?_
                rintro w2 ⟨hE2, hxb⟩
                have hrr2 := hE2.blk hrr
                have hsz2 : w.heap.size < V.heap.size := by omega
                have hszr := hX.size
                refine wp_region_rg (Exc fun q _ => q = w.heap.size) (rel_exc _) (fun W => W.heap[w.heap.size]? = some (.cells #[.int .i64 rl, .int .i64 rh] 94 (0, 0))) [0, 1, 2, 3, 4, 5, 6, 7, 8, 9, 10, 11, 12, 13] (fun _ => none) (fun i => match i with
                  | 11 => some fun _ _ W => W.heap[w.heap.size]? = some (.cells #[.int .i64 (min rl xl), .int .i64 rh] 94 (0, 0))
                  | 13 => some fun _ _ W => W.heap[w.heap.size]? = some (.cells #[.int .i64 (min rl xl), .int .i64 (max rh xh)] 94 (0, 0))
                  | _ => none) (fun i => match i with | 1 => true | 6 => true | _ => false) (by kernel_rfl) (by kernel_rfl) (fun _ _ h he => he.blk h) hrr2 (fun W N hW hF0 hN => ?_)
                have hEW : Exc (fun q _ => q = w.heap.size) w2 W := Exc.of_ext hW
                have hm1 : (if xl < rl then xl else rl) = min rl xl := by split <;> omega
                have hm2 : (if rh < xh then xh else rh) = max rh xh := by split <;> omega
                have e0 : ∀ w', Ext W w' → w'.cell? ⟨w.heap.size, 0, none⟩ = some (.int .i64 rl) := fun w' h => cell_of_row _ _ _ _ _ _ ((hW.trans h).blk hrr2)
                have e1 : ∀ w', Ext W w' → w'.cell? ⟨w.heap.size, 1, none⟩ = some (.int .i64 rh) := fun w' h => cell_of_row _ _ _ _ _ _ ((hW.trans h).blk hrr2)
                have e2 : ∀ w', Exc (fun q _ => q = w.heap.size) W w' → w'.cell? ⟨wr.heap.size, 0, none⟩ = some (.int .i64 xl) := fun w' h => cell_of_row _ _ _ _ _ _ ((hEW.trans h).blk hxb (by omega))
                have e3 : ∀ w', Exc (fun q _ => q = w.heap.size) W w' → w'.cell? ⟨wr.heap.size, 1, none⟩ = some (.int .i64 xh) := fun w' h => cell_of_row _ _ _ _ _ _ ((hEW.trans h).blk hxb (by omega))
                repeat (first | (apply wpR_one; (case ho => (simp only [List.getElem?_toArray, List.getElem?_cons_succ, List.getElem?_cons_zero]; try exact rfl)); (case hw => rfl); (case hl => rfl); (case hsp => rfl); (case he => rfl); (case hv => (intro w' hw'; (try (have hw2 := Ext.trans hEW hw')); (try (have hw3 := Exc.trans hEW hw')); (try (have hw4 := Exk.trans hEW hw')); (try (have hw5 := Mrk.trans hEW hw')); go_simp; exact rfl)); (case hw0 => (first | exact Below.refl _ _ | exact Exc.of_ext (Below.refl _ _) | exact Exk.of_ext (Below.refl _ _) | exact Mrk.of_ext (Below.refl _ _))); simp only [Act.put, List.setIfInBounds_toArray, List.set_cons_succ, List.set_cons_zero]) | (apply wpR_early; (case ho => (simp only [List.getElem?_toArray, List.getElem?_cons_succ, List.getElem?_cons_zero]; try exact rfl)); (case hw => rfl); (case hl => rfl); (case hsp => rfl); (case he => rfl); (case hv => (intro w' hw'; (try have hw2 := Ext.trans hEW hw'); go_simp; exact rfl)); simp only [Act.put, List.setIfInBounds_toArray, List.set_cons_succ, List.set_cons_zero]) | (apply wpR_pass; (case ho => (simp only [List.getElem?_toArray, List.getElem?_cons_succ, List.getElem?_cons_zero]; try exact rfl)); (case hw => rfl); (case hl => rfl); simp only [Act.put, List.setIfInBounds_toArray, List.set_cons_succ, List.set_cons_zero]))
                refine wpR_late (by ((simp only [List.getElem?_toArray, List.getElem?_cons_succ, List.getElem?_cons_zero]; try exact rfl))) _ rfl rfl (fun V v => fun _ _ h he => he.blk h) (fun V V' h => rfl) (fun w' hw' hK hF => ?_) (fun v hv => ?_)
                · have hF2 : w'.heap[w.heap.size]? = some (.cells #[.int .i64 rl, .int .i64 rh] 94 (0, 0)) := hF
                  have c4 := cell_of_row w' w.heap.size 0 _ _ _ hF2
                  have f4 := frozen_of_row w' w.heap.size 0 _ _ hF2
                  have hb := heap_setCell_same w' w.heap.size 0 _ _ (.int .i64 (min rl xl)) hF2
                  clear hF hF2 e0 e1 e2 e3
                  unfold opAt
                  go_simp
                  exact ⟨undef, rfl, setCell_exc _ _ _ _, hb⟩
                clear hv
                simp only [Act.put, List.setIfInBounds_toArray, List.set_cons_succ, List.set_cons_zero]
                repeat (first | (apply wpR_one; (case ho => (simp only [List.getElem?_toArray, List.getElem?_cons_succ, List.getElem?_cons_zero]; try exact rfl)); (case hw => rfl); (case hl => rfl); (case hsp => rfl); (case he => rfl); (case hv => (intro w' hw'; (try (have hw2 := Ext.trans hEW hw')); (try (have hw3 := Exc.trans hEW hw')); (try (have hw4 := Exk.trans hEW hw')); (try (have hw5 := Mrk.trans hEW hw')); go_simp; exact rfl)); (case hw0 => (first | exact Below.refl _ _ | exact Exc.of_ext (Below.refl _ _) | exact Exk.of_ext (Below.refl _ _) | exact Mrk.of_ext (Below.refl _ _))); simp only [Act.put, List.setIfInBounds_toArray, List.set_cons_succ, List.set_cons_zero]) | (apply wpR_early; (case ho => (simp only [List.getElem?_toArray, List.getElem?_cons_succ, List.getElem?_cons_zero]; try exact rfl)); (case hw => rfl); (case hl => rfl); (case hsp => rfl); (case he => rfl); (case hv => (intro w' hw'; (try have hw2 := Ext.trans hEW hw'); go_simp; exact rfl)); simp only [Act.put, List.setIfInBounds_toArray, List.set_cons_succ, List.set_cons_zero]) | (apply wpR_pass; (case ho => (simp only [List.getElem?_toArray, List.getElem?_cons_succ, List.getElem?_cons_zero]; try exact rfl)); (case hw => rfl); (case hl => rfl); simp only [Act.put, List.setIfInBounds_toArray, List.set_cons_succ, List.set_cons_zero]))
                refine wpR_late (by ((simp only [List.getElem?_toArray, List.getElem?_cons_succ, List.getElem?_cons_zero]; try exact rfl))) _ rfl rfl (fun V v => fun _ _ h he => he.blk h) (fun V V' h => rfl) (fun w' hw' hK hF => ?_) (fun v hv => ?_)
                · have hF2 : w'.heap[w.heap.size]? = some (.cells #[.int .i64 (min rl xl), .int .i64 rh] 94 (0, 0)) := hF
                  have c4 := cell_of_row w' w.heap.size 1 _ _ _ hF2
                  have f4 := frozen_of_row w' w.heap.size 1 _ _ hF2
                  have hb := heap_setCell_same w' w.heap.size 1 _ _ (.int .i64 (max rh xh)) hF2
                  clear hF hF2 e0 e1 e2 e3
                  unfold opAt
                  go_simp
                  exact ⟨undef, rfl, setCell_exc _ _ _ _, hb⟩
                clear hv
                simp only [Act.put, List.setIfInBounds_toArray, List.set_cons_succ, List.set_cons_zero]
                apply wpR_nil
                apply hN
                intro w3 hE3 hK hF
                have hrr3 : w3.heap[w.heap.size]? = some (.cells #[.int .i64 (min rl xl), .int .i64 (max rh xh)] 94 (0, 0)) := hF
                have hX3 := ((hX.trans (Exc.of_ext hE2)).trans hEW).trans hE3
                have o1 := own_exc (own_ext ho1 hE2) (hEW.trans hE3) (fun q o h => by omega)
                have o2 := own_exc (own_ext ho2 hE2) (hEW.trans hE3) (fun q o h => by omega)
                have hbr3 : Bdi ⟨min rl xl, max rh xh⟩ := ⟨by constructor <;> simp only <;> omega, by constructor <;> simp only <;> omega⟩
                have hrl3 : min rl xl ≤ max rh xh := by omega
                clear hm1 hm2 hK hN hF e0 e1 e2 e3 hEW hE3 hW hF0 hrr hrr2 hX ho1 ho2 hE2 hxb
                go_wp2
                go_roundw
                case rel => exact ⟨k + 1, A1, c1, A2, c2, bl, ⟨min rl xl, max rh xh⟩, ab, by omega, by go_num, rfl, rfl, HST3, by omega, hbr3, hrl3, o1, o2, hns, hrr3, hX3⟩
                case measure => simp [intOf]; omega
      · obtain rfl : k = L.length := by omega
        have hall : addL L ⟨lo, hi⟩ = bl ++ [rr] ++ ab := by
          have := HF.out
          rw [List.take_length] at this
          unfold addL addS
          rw [if_pos hle, this]
          rfl
        have hok := addL_ok hS.wf ⟨lo, hi⟩
        have hbd : ∀ y ∈ addL L ⟨lo, hi⟩, Bdi y := by
          have := addS_all (Q := Bdi) (fun a b ha hb => by
            obtain ⟨⟨p1, p2⟩, p3, p4⟩ := ha
            obtain ⟨⟨q1, q2⟩, q3, q4⟩ := hb
            exact ⟨⟨by simp only; omega, by simp only; omega⟩, by simp only; omega, by simp only; omega⟩) L ⟨[], ⟨lo, hi⟩, []⟩ hS.bd (fun _ h => by cases h) hb2 (fun _ h => by cases h)
          rw [List.take_length] at HF
          rw [HF.out] at this
          obtain ⟨t1, t2, t3⟩ := this
          rw [hall]
          intro y hy
          rcases List.mem_append.1 hy with hy | hy
          · rcases List.mem_append.1 hy with hy | hy
            · exact t1 y hy
            · rcases List.mem_cons.1 hy with rfl | hy
              · exact t2
              · cases hy
          · exact t3 y hy
        rw [hall] at hok hbd
        have hVs := hE.size
        have hVlt : w.heap.size + 1 < V.heap.size := (Array.getElem?_eq_some_iff.1 hnv).1
        have hXs := hX.size
        have hEr := hX.to_ext hE (fun q o h => by omega)
        have hnv2 := hX.blk hnv (by omega)
        have hKE2 := hX.blk hKE (by omega)
        obtain ⟨rl, rh⟩ := rr
        have q0 := cell_of_row wr w.heap.size 0 _ _ _ hrr
        have q2 := cell_of_row wr w.heap.size 1 _ _ _ hrr
        simp only [List.getElem?_toArray, List.getElem?_cons_zero, List.getElem?_cons_succ] at q0 q2
        have ea := ext_alloc wr (Obj.cells #[.int .i64 rl, .int .i64 rh] 94)
        have eb := ext_alloc (wr.alloc (Obj.cells #[.int .i64 rl, .int .i64 rh] 94)) (Obj.cells #[.slice A1 bl.length c1, .slice (some ⟨wr.heap.size, 0, none⟩) 1 1, .slice A2 ab.length c2] 90)
        have hhd := heap_alloc_new (wr.alloc (Obj.cells #[.int .i64 rl, .int .i64 rh] 94)) (Obj.cells #[.slice A1 bl.length c1, .slice (some ⟨wr.heap.size, 0, none⟩) 1 1, .slice A2 ab.length c2] 90)
        rw [World.size_alloc] at hhd
        have hmid := World.ownsRow_lit (base := 0) (e := 94) (size := 2) wr #[.int .i64 rl, .int .i64 rh] 1 (Nat.zero_le _) (by decide) rfl
        have HCC := concat_anyi (ps := [⟨A1, c1, bl⟩, ⟨some ⟨wr.heap.size, 0, none⟩, 1, [⟨rl, rh⟩]⟩, ⟨A2, c2, ab⟩]) (cl := 3) hhd (by simp) (by simp) (fun p hp => by
          simp only [List.mem_cons, List.not_mem_nil, or_false] at hp
          rcases hp with rfl | rfl | rfl
          · exact own_mono (own_ext ho1 (ea.trans eb)) (Nat.zero_le _)
          · exact own_ext hmid eb
          · exact own_mono (own_ext ho2 (ea.trans eb)) (Nat.zero_le _)) (by simp [catT]; omega) (by simp [catT]; omega)
        have hcat : catT [⟨A1, c1, bl⟩, ⟨some ⟨wr.heap.size, 0, none⟩, 1, [⟨rl, rh⟩]⟩, ⟨A2, c2, ab⟩] [(⟨A1, c1, bl⟩ : Pt), ⟨some ⟨wr.heap.size, 0, none⟩, 1, [⟨rl, rh⟩]⟩, ⟨A2, c2, ab⟩].length = bl ++ [⟨rl, rh⟩] ++ ab := by simp [catT]
        rw [hcat] at HCC
        have hEc := ea.trans eb
        have HS3 := Lib.hid ((hS.ext hEr).hd)
        clear q1 hmid hhd
        gi_wp2
        refine ⟨trivial, rfl, (callsIn_wide.2 HCC).mono ?_⟩
        rintro e w2 ⟨A', c', rfl, hrow, hE2⟩
        clear HCC
        have hEf := hEc.trans hE2
        have hp2 := hEf.blk HS3.out
        have hn2 := hEf.blk hnv2
        have hK2 := hEf.blk hKE2
        have hE3 := hEr.trans hEf
        have c0 := cell_of_row w2 p 0 _ _ _ hp2
        have f0 := frozen_of_row w2 p 0 _ _ hp2
        simp only [List.getElem?_toArray, List.getElem?_cons_zero] at c0
        obtain ⟨R, hR⟩ : ∃ R, bl ++ [⟨rl, rh⟩] ++ ab = R := ⟨_, rfl⟩
        rw [hR] at hrow hok hbd
        rw [hR] at hall
        have HALL := Lib.hid hall
        clear hall
        have hp3 := heap_setCell_same w2 p 0 _ _ (.slice A' R.length c') hp2
        have hn3 := (Below.heap_setCell w2 ⟨p, 0, none⟩ (.slice A' R.length c') (w.heap.size + 1) (show w.heap.size + 1 ≠ p by omega)).trans hn2
        have hK3 := (Below.heap_setCell w2 ⟨p, 0, none⟩ (.slice A' R.length c') E (show E ≠ p by omega)).trans hK2
        have c1' := cell_of_row _ (w.heap.size + 1) 0 _ _ _ hn3
        simp only [List.getElem?_toArray, List.getElem?_cons_zero] at c1'
        have hw64 : IntKind.i64.wrap n = n := by rw [IntKind.wrap_i64]; omega
        have hEE : E < w2.heap.size := (Array.getElem?_eq_some_iff.1 hK2).1
        have hx3 := setCell_exc w2 p 0 (.slice A' R.length c')
        have hx4 : Exc (fun q _ => q = p) w ((w2.setCell ⟨p, 0, none⟩ (.slice A' R.length c')).putObj E (.deferred none)) := exc_grown_new ((Exc.of_ext hE3).trans hx3) (grownBy_putObj' _ E _) (fun q h => by injection h with h; omega)
        have hx5 : Exc (fun q o => q = p ∨ o.isCells = false) w2 ((w2.setCell ⟨p, 0, none⟩ (.slice A' R.length c')).putObj E (.deferred none)) :=
          Exc.trans ⟨hx3.os, hx3.tape, hx3.output, hx3.size, fun k o hk hd => hx3.block k o hk (fun h => hd (.inl h))⟩ (Exc.of_grown (grownBy_putObj' _ E _) (fun g o h1 h2 => by injection h1 with h1; subst h1; rw [hK3] at h2; injection h2 with h2; subst h2; exact .inr rfl))
        have hro := own_exc hrow hx5 (fun q cs hq h => by
          rcases h with h | h
          · have := hEc.size; omega
          · simp [Obj.isCells] at h)
        clear hK2 hn2 hp2 hE3 hrow hx3 hx5 hEf
        gi_wp2
        refine ⟨by simp, .inl ⟨_, _, rfl, run_takeDeferred hK3, ?_⟩⟩
        refine ⟨_, results_tmp rfl _ _ _, A', c', ?_, ?_, hx4, ?_⟩
        · rw [HNN.out]
          first | rfl | simp [hw64]
        · rw [HALL.out]
          exact ⟨(World.putObj_heap_other (show p ≠ E by omega)).trans hp3, own_mono hro (by have := hEc.size; omega), hok.1, hbd⟩
        · rw [HALL.out]
          exact own_mono hro (by have := hEc.size; omega)
theorem add_anyi {B p c : Nat} {A : Option Addr} {L : List Rn} {lo hi : Int} {w : World} (hS : SetAti B p A c w L) (hl : L.length ≤ 1000000) (hb : Bdi ⟨lo, hi⟩) (hpB : B ≤ p) (hBw : B ≤ w.heap.size) (hle : lo ≤ hi) :
    Calls Try.prog 59 #[.pointer (some ⟨p, 0, none⟩), .int .i64 lo, .int .i64 hi] w fun e w' => ∃ A' c', e = .returned (.int .i64 ((gapsL (withinL L ⟨lo, hi⟩) ⟨lo, hi⟩).foldl withZ 0)) ∧ SetAti B p A' c' w' (addL L ⟨lo, hi⟩) ∧ Exc (fun q _ => q = p) w w' :=
  (add_anyFi hS hl hb hpB hBw hle).mono fun e w' ⟨A', c', h1, h2, h3, _⟩ => ⟨A', c', h1, h2, h3⟩
end Go.Proofs.Ytaalhicdeibodaa
