/- Layer 10: the walk of PoolLeavesWhatLasts. No condition but the sizes. -/
import Derived.Test.YtaalhicdeibodaaPact
namespace Go.Proofs.Ytaalhicdeibodaa
open Go.RowKit Go.Proofs Go.Shelf
set_option linter.unusedVariables false
theorem pgs_low (sts : List Int) : ∀ i, i ≤ sts.length → (i ≤ sts.findIdx (· == 1) → pgsTo sts 1 i = []) ∧ (sts.findIdx (· == 1) < i → ∃ t, pgsTo sts 1 i = ((sts.findIdx (· == 1) : Int) + 1) :: t) := by
  intro i
  induction i with
  | zero => intro _; exact ⟨fun _ => rfl, fun h => absurd h (by omega)⟩
  | succ i ih =>
    intro hi
    obtain ⟨h1, h2⟩ := ih (by omega)
    rw [pgsTo_succ]
    refine ⟨fun h => ?_, fun h => ?_⟩
    · have hne : ¬ sts.getD i 0 = 1 := by
        have := List.not_of_lt_findIdx (p := (· == 1)) (xs := sts) (i := i) (by omega)
        rw [List.getD_eq_getElem?_getD, List.getElem?_eq_getElem (by omega)]
        simpa using this
      rw [if_neg hne, h1 (by omega)]
      rfl
    · by_cases he : sts.findIdx (· == 1) < i
      · obtain ⟨t, ht⟩ := h2 he
        rw [ht]
        exact ⟨_, rfl⟩
      · have he2 : sts.findIdx (· == 1) = i := by omega
        have hq : sts.getD i 0 = 1 := by
          have := List.findIdx_getElem (p := (· == 1)) (xs := sts) (w := by omega)
          rw [List.getD_eq_getElem?_getD, List.getElem?_eq_getElem (by omega)]
          simpa [he2] using this
        rw [h1 (by omega), if_pos hq, he2]
        exact ⟨[], rfl⟩
theorem low_pages {s : Pl} {N : Nat} (hok : s.Ok N) : (lowF s.sts = 0 ∧ s.pages 1 = []) ∨ ∃ (j : Nat) (t : List Int), lowF s.sts = (j : Int) + 1 ∧ j < s.cnt.length ∧ s.pages 1 = ((j : Int) + 1) :: t := by
  have hl : s.sts.length = s.cnt.length := sts_len hok.last
  have h := pgs_low s.sts s.cnt.length (by omega)
  by_cases hf : s.sts.findIdx (· == 1) < s.sts.length
  · obtain ⟨t, ht⟩ := h.2 (by omega)
    exact .inr ⟨_, t, if_pos hf, by omega, ht⟩
  · exact .inl ⟨if_neg hf, h.1 (by omega)⟩
/-- What was told of the counts when they lasted. -/
structure LastP (s : Pl) (ll : List Int) : Prop where
  last : s.last = lastOf ll
  bd : ∀ z ∈ ll, 0 ≤ z ∧ z ≤ 65535
theorem did_last {s : Pl} {k n : Int} (h : k ≠ 10) : (s.did k n).last = s.last := by
  unfold Pl.did
  split
  · unfold Pl.allocS; split <;> rfl
  · split
    · unfold Pl.incS; split <;> rfl
    · split
      · unfold Pl.decS; split <;> rfl
      · first | rfl | rw [if_neg h]
theorem LastP.did {s : Pl} {ll : List Int} (h : LastP s ll) {k n : Int} (hk : k ≠ 10) : LastP (s.did k n) ll := ⟨(did_last hk).trans h.last, h.bd⟩
theorem LastP.now {s : Pl} {N : Nat} (hok : s.Ok N) (n : Int) : LastP (s.did 10 n) (s.did 10 n).cnt := ⟨rfl, fun z hz => by
  have h1 := hok.cnt z hz
  have h2 := hok.refs
  omega⟩
theorem LastP.init {b : Bgn} {N : Nat} (hok : b.s.Ok N) : LastP b.s b.s.cnt := by
  refine ⟨?_, fun z hz => by
    have h1 := hok.cnt z hz
    have h2 := hok.refs
    omega⟩
  unfold Bgn.s
  split
  · rfl
  · rw [new_load]
    rfl
theorem LastP.len {s : Pl} {N : Nat} (hok : s.Ok N) {ll : List Int} (h : LastP s ll) : ll.length = s.cnt.length := by
  have := hok.last
  rw [h.last] at this
  simpa [lastOf] using this
theorem LastP.low {s : Pl} {N : Nat} (hok : s.Ok N) {ll : List Int} (h : LastP s ll) {j : Nat} (hj : lowF s.sts = (j : Int) + 1) (hlt : j < s.cnt.length) :
    s.allocE = 0 ∧ ll[j]? = some 0 ∧ cntAt s.allocS.cnt ((j : Int) + 1) = 1 ∧ stAt s.allocS.cnt s.allocS.last ((j : Int) + 1) = 3 := by
  have h0 : lowF s.sts ≠ 0 := by omega
  obtain ⟨⟨a, b⟩, c, d⟩ := hok.low h0
  have hlen := h.len hok
  have hj1 : (lowF s.sts - 1).toNat = j := by omega
  rw [hj1] at c d
  have e1 : s.allocS = s.act ((j : Int) + 1) 1 := by unfold Pl.allocS; rw [if_neg h0, hj]
  have e2 : cntAt (s.act ((j : Int) + 1) 1).cnt ((j : Int) + 1) = 1 := by
    have := cntAt_bump (cnt := s.cnt) (n := (j : Int) + 1) (b := 1) (by omega) (by omega)
    rw [show ((j : Int) + 1 - 1).toNat = j by omega, c] at this
    exact this
  refine ⟨if_neg h0, ?_, by rw [e1]; exact e2, ?_⟩
  · rw [h.last, lastOf, List.getD_eq_getElem?_getD, List.getElem?_map, List.getElem?_eq_getElem (by omega)] at d
    rw [List.getElem?_eq_getElem (by omega)]
    have hb := h.bd ll[j] (List.getElem_mem (by omega))
    have : ¬ 0 < ll[j] := by simpa using d
    rw [show ll[j] = 0 by omega]
  · rw [e1]
    have hin : 1 ≤ (j : Int) + 1 ∧ (j : Int) + 1 ≤ ((s.act ((j : Int) + 1) 1).cnt.length : Nat) := ⟨by omega, by
      show _ ≤ ((bump _ _ _).length : Int)
      rw [bump_len]
      omega⟩
    have e3 : (s.act ((j : Int) + 1) 1).cnt.getD ((j : Int) + 1 - 1).toNat 0 = 1 := by
      have := e2
      unfold cntAt at this
      rwa [if_pos hin] at this
    unfold stAt
    rw [if_pos hin, e3, show ((j : Int) + 1 - 1).toNat = j by omega, show (s.act ((j : Int) + 1) 1).last = s.last from rfl, d]
    rfl
set_option maxHeartbeats 2000000 in
set_option maxRecDepth 100000 in
theorem pleaves_any {w : World} {v : Value} {b : Bgn} {A0 : Option Addr} {c0 : Nat} {l : List Opp} (hb : BgV w v b) (hl0 : OPP w A0 c0 l) :
    Calls Try.prog 5 #[v, .slice A0 l.length c0] w fun e w' => e = .returned (.bool true) ∧ Ext w w' := by
  obtain ⟨⟨A, c, rfl, hx, hl⟩⟩ := hb
  have hE1 := ext_alloc w (Obj.cells #[.bool b.ld, .int .i64 b.pages, .int .i64 b.refs, .slice A b.cs.length c] 24)
  have hbn := heap_alloc_new w (Obj.cells #[.bool b.ld, .int .i64 b.pages, .int .i64 b.refs, .slice A b.cs.length c] 24)
  have hf := fixed_any (w := w.alloc (Obj.cells #[.bool b.ld, .int .i64 b.pages, .int .i64 b.refs, .slice A b.cs.length c] 24))
  obtain ⟨N, hN⟩ : ∃ N, min l.length 60 = N := ⟨_, rfl⟩
  have hL := hl0.cut N
  have hln : (l.take N).length = N := by rw [List.length_take]; omega
  have hmn : (if (60 : Int) < (l.length : Int) then 60 else (l.length : Int)) = (N : Int) := by split <;> omega
  have hnl : N ≤ l.length := by omega
  have hn2 : N ≤ 60 := by omega
  have hlc := hl0.le
  have hcap := hl0.cap
  have hnc : N ≤ c0 := by omega
  obtain ⟨L, hLL⟩ : ∃ L, l.take N = L := ⟨_, rfl⟩
  rw [hLL] at hL hln
  have HLN := Lib.hid hln
  clear hN hln hLL hl0
  go_enter Try.func5, Try.ntmps5
  go_wp2_with fail
  refine hf.mono ?_
  rintro e w2 ⟨rfl, hE2⟩
  have hb2 := hE2.blk hbn
  have d0 := cell_of_row w2 w.heap.size 0 _ _ _ hb2
  have d1 := cell_of_row w2 w.heap.size 1 _ _ _ hb2
  have d2 := cell_of_row w2 w.heap.size 2 _ _ _ hb2
  have d3 := cell_of_row w2 w.heap.size 3 _ _ _ hb2
  simp only [List.getElem?_toArray, List.getElem?_cons_zero, List.getElem?_cons_succ] at d0 d1 d2 d3
  have hE12 := hE1.trans hE2
  have hm := made_any b (hx.ext hE12) hl
  clear hf hbn hb2 hE1 hE2
  go_wp2_with fail
  refine hm.mono ?_
  rintro e w3 ⟨v, u, rfl, hmd, hE3⟩
  have hE13 := hE12.trans hE3
  have hBs := hE12.size
  have hBs3 := hE3.size
  clear hm d0 d1 d2 d3 hE12
  rcases hmd with ⟨_, rfl, rfl⟩ | ⟨_, m, r, rfl, rfl, hBo⟩
  · go_wp2
    go_ret
    exact ⟨rfl, hE13⟩
  · have hP := hBo.p
    have hP0 := hP
    clear hBo hE3
    have HE := Lib.hid hE13
    have hok0 := hP.ok
    have q0 := counts_any hP
    go_wp2_with fail
    refine q0.mono ?_
    rintro e w4 ⟨A1, c1, rfl, hR1, hE4⟩
    have hP4 := hP.ext hE4
    have hk4 := Kep.of_row hR1 (hR1.nlc hok0) hP
    have hE14 := hE13.trans hE4
    have hs4 := hE4.size
    have hl4 := hok0.len
    clear q0 hR1 hE4
    have hLP := LastP.init hok0
    go_wp2
    go_loopw [8, 9] (fun a i wr => ∃ (k : Nat) (m' : Pm) (A' : Option Addr) (c' : Nat) (ll : List Int), k ≤ N ∧ i = .int .i64 k ∧ a = .slice A' ll.length c' ∧ PoolS w2.heap.size k wr m' (didL b.s (L.take k)) ∧ Moved m m' w4 wr ∧ Kep m' wr A' c' ll ∧ LastP (didL b.s (L.take k)) ll) (fun _ i _ => N - (intOf i).toNat)
    case atStart => exact ⟨0, m, A1, c1, _, by omega, rfl, rfl, hP4, Moved.refl _ _, hk4, hLP⟩
    case round =>
      clear hk4 hLP
      obtain ⟨k, m', A', c', ll, hk, rfl, rfl, hPk, hMk, hKk, hLk⟩ := hrel
      have hEk := hMk.toExt hP4 hE14 hBs
      have hws := hMk.x.size
      by_cases hkN : k < N
      · have hki : (k : Int) < (N : Int) := by omega
        obtain ⟨o, ho⟩ : ∃ o, L[k]? = some o := ⟨_, List.getElem?_eq_getElem (by rw [HLN.out]; exact hkN)⟩
        obtain ⟨bb, off, rfl, _, hcl⟩ := (hL.ext hEk).rd (by rw [HLN.out]; omega)
        obtain ⟨z0, z1, z2⟩ := hcl k o ho
        have hkc : k < c0 := by omega
        have hst := didL_step b.s ho
        have hEa := ext_alloc wr (Obj.cells #[.int .i64 o.k, .int .i64 o.n, .int .i64 o.t] 33)
        have hba := heap_alloc_new wr (Obj.cells #[.int .i64 o.k, .int .i64 o.n, .int .i64 o.t] 33)
        have hPa := hPk.ext hEa
        have hKa := hKk.ext hEa
        have hMa := hMk.trans (Moved.of_ext hEa)
        have hsa := hEa.size
        have hfa : ¬ m'.foot wr.heap.size := fun h => by have := (hPk.foot_lt h).2; omega
        obtain ⟨s, hs⟩ : ∃ s, didL b.s (L.take k) = s := ⟨_, rfl⟩
        rw [hs] at hPa hLk hst
        have hok := hPa.ok
        clear hcl hs hPk hMk hKk
        by_cases k0 : o.k = 0
        · have hdd : s.did o.k o.n = s.allocS := by rw [k0]; rfl
          rw [hdd] at hst
          have hLk2 : LastP s.allocS ll := by rw [← hdd]; exact hLk.did (by omega)
          rw [k0] at z0 hEa hba hPa hKa hMa hsa
          have hw := walked_any hPa 1 (-1)
          rw [stopL_neg, hMa.p] at hw
          go_wp2_with fail
          refine hw.mono ?_
          rintro e w5 ⟨A5, c5, rfl, hR5, hE5⟩
          have hP5 := hPa.ext hE5
          have hK5 := hKa.ext hE5
          have hM5 := hMa.trans (Moved.of_ext hE5)
          have hs5 := hE5.size
          have hF5 := Kep.of_row hR5 (hR5.nlp hok) hPa
          have q5 := alloc_any hP5 (by omega) (by omega)
          rw [hM5.p] at q5
          clear hw hR5 hE5 hP4
          rcases low_pages hok with ⟨y1, y2⟩ | ⟨j, t, y1, y2, y3⟩
          · have y3 : s.allocE = 12 := if_pos y1
            rw [y1, y3] at q5
            rw [y2]
            clear y1 y2 y3 hF5
            go_wp2_with fail
            refine q5.mono ?_
            rintro e w6 ⟨m6, rfl, hP6, mv6⟩
            have hM6 := hM5.trans mv6
            have hK6 := hK5.moved mv6
            rw [← hst] at hP6 hLk2
            clear q5 hst hdd
            go_wp2
            go_roundw
            case rel => exact ⟨k + 1, m6, A', c', ll, by omega, by go_num, rfl, hP6, hM6, hK6, hLk2⟩
            case measure => simp [intOf]; omega
          · obtain ⟨x1, x2, x3, x4⟩ := hLk.low hok y1 y2
            obtain ⟨n, hn⟩ : ∃ n : Int, (j : Int) + 1 = n := ⟨_, rfl⟩
            rw [hn] at y1 y3 x3 x4
            have hn1 : n - 1 = (j : Int) := by omega
            have hn2 : (j : Int) + 1 ≤ n ∧ n ≤ (j : Int) + 1 := by omega
            rw [y1, x1] at q5
            rw [y3] at hF5
            rw [y3]
            have hF6' := fun (w6 : World) (m6 : Pm) (mv6 : Moved m' m6 w5 w6) => hF5.moved mv6
            obtain ⟨nf, hnf⟩ : ∃ nf, (n :: t).length = nf := ⟨_, rfl⟩
            have hnf0 : 0 < nf := by rw [← hnf]; simp
            rw [hnf]
            have f0 : ((nf : Int) == 0) = false := by simp; omega
            have f1 : (n != n) = false := by simp
            have f2 : ¬ n < 1 := by omega
            have hlen := hLk.len hok
            have hkl := hok.len
            have hlj : j < ll.length := by omega
            have f3 : ¬ (ll.length : Int) < n := by omega
            have iw : IntKind.i64.wrap (n - 1) = (j : Int) := by rw [hn1]; exact IntWalk.i64_in _ (by omega)
            have f4 : ¬ (j : Int) < 0 := by omega
            have f5 : (j : Int) < (ll.length : Int) := by omega
            have f6 : (0 : Int) < (nf : Int) := by omega
            have hlc5 := hF5.nl.le
            rw [hnf] at hlc5
            have hlc6 := hK5.nl.le
            have HX3 := Lib.hid x3
            have HX4 := Lib.hid x4
            have HX2 := Lib.hid x2
            have HNF := Lib.hid hnf
            have HST := Lib.hid hst
            clear hn hn1 y1 y2 y3 x1 x2 x3 x4 hnf hlen hdd hst
            go_wp2_with fail
            refine q5.mono ?_
            rintro e w6 ⟨m6, rfl, hP6, mv6⟩
            have hM6 := hM5.trans mv6
            have hK6 := hK5.moved mv6
            have hF6 := hF5.moved mv6
            obtain ⟨g5, o5, rfl, hc5⟩ := hF6.nl.rd (by rw [HNF.out]; exact hnf0)
            have e5 : w6.cell? ⟨g5, o5, none⟩ = some (.int .i64 n) := hc5 0 _ rfl
            have e5' : w6.cell? ⟨g5, o5 + 0, none⟩ = some (.int .i64 n) := hc5 0 _ rfl
            have hK6' := hK6
            obtain ⟨g6, o6, rfl, hc6⟩ := hK6.nl.rd (by omega)
            have e6 : w6.cell? ⟨g6, o6 + j, none⟩ = some (.int .i64 0) := hc6 j _ HX2.out
            have q6 := count_pool hP6 n
            have q7 := state_pool hP6 n
            rw [hM6.p, HX3.out] at q6
            rw [hM6.p, HX4.out] at q7
            clear q5 hc5 hc6
            go_wp2_with fail
            refine q6.mono ?_
            rintro e w7 ⟨rfl, rfl⟩
            go_wp2_with fail
            refine q7.mono ?_
            rintro e w7 ⟨rfl, rfl⟩
            rw [← HST.out] at hP6 hLk2
            clear q6 q7 iw f0 f1 f2 f3 f4 f5 f6 e5 e5' e6
            go_wp2
            go_roundw
            case rel => exact ⟨k + 1, m6, _, c', ll, by omega, by go_num, rfl, hP6, hM6, hK6', hLk2⟩
            case measure => simp [intOf]; omega
        · have b0 : (o.k != 0) = true := by simpa using k0
          have hc := acted_any hPa (by omega) (by omega) o.k o.n o.t
          rw [← hst, hMa.p] at hc
          by_cases k10 : o.k = 10
          · have b1 : (o.k == 10) = true := by simpa using k10
            have hLn : LastP (didL b.s (L.take (k + 1))) (didL b.s (L.take (k + 1))).cnt := by rw [hst, k10]; exact LastP.now hok _
            clear hst k0 k10
            go_wp2_with fail
            refine hc.mono ?_
            rintro e w5 ⟨m5, rfl, hP5, mv5⟩
            have hM5 := hMa.trans mv5
            have hb5 := mv5.x.blk hba hfa
            have d0 := cell_of_row w5 wr.heap.size 0 _ _ _ hb5
            simp only [List.getElem?_toArray, List.getElem?_cons_zero, List.getElem?_cons_succ] at d0
            have q6 := counts_any hP5
            rw [hM5.p] at q6
            clear hc hb5
            go_wp2_with fail
            refine q6.mono ?_
            rintro e w6 ⟨A6, c6, rfl, hR6, hE6⟩
            have hP6 := hP5.ext hE6
            have hK6 := Kep.of_row hR6 (hR6.nlc hP5.ok) hP5
            have hM6 := hM5.trans (Moved.of_ext hE6)
            clear q6 d0 hR6 b1 b0
            go_wp2
            go_roundw
            case rel => exact ⟨k + 1, m5, A6, c6, _, by omega, by go_num, rfl, hP6, hM6, hK6, hLn⟩
            case measure => simp [intOf]; omega
          · have b1 : (o.k == 10) = false := by simpa using k10
            have hLn : LastP (didL b.s (L.take (k + 1))) ll := by rw [hst]; exact hLk.did k10
            clear hst k0 k10
            go_wp2_with fail
            refine hc.mono ?_
            rintro e w5 ⟨m5, rfl, hP5, mv5⟩
            have hM5 := hMa.trans mv5
            have hK5 := hKa.moved mv5
            have hb5 := mv5.x.blk hba hfa
            have d0 := cell_of_row w5 wr.heap.size 0 _ _ _ hb5
            simp only [List.getElem?_toArray, List.getElem?_cons_zero, List.getElem?_cons_succ] at d0
            clear hc hb5
            go_wp2
            go_roundw
            case rel => exact ⟨k + 1, m5, A', c', ll, by omega, by go_num, rfl, hP5, hM5, hK5, hLn⟩
            case measure => simp [intOf]; omega
      · obtain rfl : k = N := by omega
        go_wp2
        go_ret
        exact ⟨rfl, hEk⟩
end Go.Proofs.Ytaalhicdeibodaa
