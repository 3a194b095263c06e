/- Layer 10: the walk of PoolBack. No condition but the sizes. -/
import Derived.Test.YtaalhicdeibodaaPact
namespace Go.Proofs.Ytaalhicdeibodaa
open Go.RowKit Go.Proofs Go.Shelf
set_option linter.unusedVariables false
theorem Pl.inc_no {s : Pl} {n : Int} (h : s.incE n ≠ 0) : s.incS n = s ∧ (cntAt s.cnt n = 0 ∨ cntAt s.cnt n = s.refs) := by
  refine ⟨if_neg h, ?_⟩
  unfold Pl.incE at h
  by_cases h0 : cntAt s.cnt n = 0
  · exact .inl h0
  · by_cases h1 : cntAt s.cnt n = s.refs
    · exact .inr h1
    · rw [if_neg h0, if_neg h1] at h
      exact absurd rfl h
theorem Pl.inc_dec {s : Pl} {n : Int} {N : Nat} (hok : s.Ok N) (h : s.incE n = 0) :
    (s.incS n).decE n = 0 ∧ (s.incS n).decN n = cntAt s.cnt n ∧ ((s.incS n).decS n).cnt = s.cnt ∧ ((s.incS n).decS n).last = s.last ∧ ((s.incS n).decS n).acts.length = s.acts.length + 2 ∧ ((s.incS n).decS n).refs = s.refs := by
  have hb := cntAt_bd hok n
  have h0 : cntAt s.cnt n ≠ 0 := by
    intro e
    unfold Pl.incE at h
    rw [if_pos e] at h
    cases h
  obtain ⟨a, b, c⟩ := cntAt_in h0
  have e1 : s.incS n = s.act n 1 := if_pos h
  rw [e1]
  have e2 : cntAt (s.act n 1).cnt n = s.cnt.getD (n - 1).toNat 0 + 1 := cntAt_bump a b
  have e3 : cntAt (s.act n 1).cnt n ≠ 0 := by omega
  have e4 : (s.act n 1).decS n = (s.act n 1).act n (-1) := if_neg e3
  have e5 : ((s.act n 1).act n (-1)).cnt = s.cnt := bump_back s.cnt a b
  refine ⟨if_neg e3, ?_, by rw [e4, e5], by rw [e4]; rfl, ?_, by rw [e4]; rfl⟩
  · unfold Pl.decN
    rw [e4, e5]
  · rw [e4]
    show ((s.acts ++ [(n, 1)]) ++ [(n, -1)]).length = _
    simp
set_option maxHeartbeats 2000000 in
theorem pback_any {w : World} {v : Value} {b : Bgn} {A0 : Option Addr} {c0 : Nat} {l : List Opp} {n : Int} (hb : BgV w v b) (hl0 : OPP w A0 c0 l) :
    Calls Try.prog 3 #[v, .slice A0 l.length c0, .int .i64 n] w fun e w' => e = .returned (.bool true) ∧ Ext w w' := by
  obtain ⟨⟨A, c, rfl, hx, hl⟩⟩ := hb
  have hE1 := ext_alloc w (Obj.cells #[.bool b.ld, .int .i64 b.pages, .int .i64 b.refs, .slice A b.cs.length c] 24)
  have hbn := heap_alloc_new w (Obj.cells #[.bool b.ld, .int .i64 b.pages, .int .i64 b.refs, .slice A b.cs.length c] 24)
  have hf := fixed_any (w := w.alloc (Obj.cells #[.bool b.ld, .int .i64 b.pages, .int .i64 b.refs, .slice A b.cs.length c] 24))
  obtain ⟨N, hN⟩ : ∃ N, min l.length 60 = N := ⟨_, rfl⟩
  have hL := hl0.cut N
  have hln : (l.take N).length = N := by rw [List.length_take]; omega
  have hmn : (if (60 : Int) < (l.length : Int) then 60 else (l.length : Int)) = (N : Int) := by split <;> omega
  have hnl : N ≤ l.length := by omega
  have hn2 : N ≤ 60 := by omega
  have hlc := hl0.le
  have hcap := hl0.cap
  have hnc : N ≤ c0 := by omega
  obtain ⟨L, hLL⟩ : ∃ L, l.take N = L := ⟨_, rfl⟩
  rw [hLL] at hL hln
  have HLN := Lib.hid hln
  clear hN hln hLL hl0
  go_enter Try.func3, Try.ntmps3
  go_wp2_with fail
  refine hf.mono ?_
  rintro e w2 ⟨rfl, hE2⟩
  have hb2 := hE2.blk hbn
  have d0 := cell_of_row w2 w.heap.size 0 _ _ _ hb2
  have d1 := cell_of_row w2 w.heap.size 1 _ _ _ hb2
  have d2 := cell_of_row w2 w.heap.size 2 _ _ _ hb2
  have d3 := cell_of_row w2 w.heap.size 3 _ _ _ hb2
  simp only [List.getElem?_toArray, List.getElem?_cons_zero, List.getElem?_cons_succ] at d0 d1 d2 d3
  have hE12 := hE1.trans hE2
  have hm := made_any b (hx.ext hE12) hl
  clear hf hbn hb2 hE1 hE2
  go_wp2_with fail
  refine hm.mono ?_
  rintro e w3 ⟨v, u, rfl, hmd, hE3⟩
  have hE13 := hE12.trans hE3
  have hBs := hE12.size
  have hBs3 := hE3.size
  clear hm d0 d1 d2 d3 hE12
  rcases hmd with ⟨_, rfl, rfl⟩ | ⟨_, m, r, rfl, rfl, hBo⟩
  · go_wp2
    go_ret
    exact ⟨rfl, hE13⟩
  · have hP := hBo.p
    have hP0 := hP
    clear hBo hE3
    have HE := Lib.hid hE13
    go_wp2
    go_loopw [10] (fun i wr => ∃ (k : Nat) (m' : Pm), k ≤ N ∧ i = .int .i64 k ∧ PoolS w2.heap.size k wr m' (didL b.s (L.take k)) ∧ Moved m m' w3 wr) (fun i _ => N - (intOf i).toNat)
    case atStart => exact ⟨0, m, by omega, rfl, hP, Moved.refl _ _⟩
    case round =>
      obtain ⟨k, m', hk, rfl, hPk, hMk⟩ := hrel
      have hEk := hMk.toExt hP hE13 hBs
      have hws := hMk.x.size
      by_cases hkN : k < N
      · have hki : (k : Int) < (N : Int) := by omega
        obtain ⟨o, ho⟩ : ∃ o, L[k]? = some o := ⟨_, List.getElem?_eq_getElem (by rw [HLN.out]; exact hkN)⟩
        obtain ⟨bb, off, rfl, _, hcl⟩ := (hL.ext hEk).rd (by rw [HLN.out]; omega)
        obtain ⟨z0, z1, z2⟩ := hcl k o ho
        have hkc : k < c0 := by omega
        have hc := acted_any hPk (by omega) (by omega) o.k o.n o.t
        rw [← didL_step _ ho, hMk.p] at hc
        clear hcl
        go_wp2_with fail
        refine hc.mono ?_
        rintro e w5 ⟨m2, rfl, h2, mv2⟩
        have hM2 := hMk.trans mv2
        clear hc z0 z1 z2 hPk hMk mv2 hEk
        go_wp2
        go_roundw
        case rel => exact ⟨k + 1, m2, by omega, by go_num, h2, hM2⟩
        case measure => simp [intOf]; omega
      · obtain rfl : k = N := by omega
        obtain ⟨s, hs⟩ : ∃ s, didL b.s (L.take k) = s := ⟨_, rfl⟩
        rw [hs] at hPk
        clear hs hkN
        have hok := hPk.ok
        have hbc := cntAt_bd hok n
        have hln := hok.len
        have hac := hok.acts
        have q1 := counts_any hPk
        rw [hMk.p] at q1
        go_wp2_with fail
        refine q1.mono ?_
        rintro e w5 ⟨A1, c1, rfl, hR1, hE5⟩
        have hP5 := hPk.ext hE5
        have hk5 := Kep.of_row hR1 (hR1.nlc hok) hPk
        have q2 := state_pool hP5 n
        rw [hMk.p] at q2
        clear q1 hR1
        go_wp2_with fail
        refine q2.mono ?_
        rintro e w6 ⟨rfl, rfl⟩
        have q3 := mark_wide hP5 (by omega)
        rw [hMk.p] at q3
        clear q2
        go_wp2_with fail
        refine q3.mono ?_
        rintro e w6 ⟨rfl, hE6⟩
        have hP6 := hP5.ext hE6
        have hk6 := hk5.ext hE6
        have hs6 := (hE5.trans hE6).size
        have q4 := inc_any hP6 (by omega) (by omega) n
        rw [hMk.p] at q4
        have hM6 : Moved m m' w3 w6 := hMk.trans (Moved.of_ext (hE5.trans hE6))
        clear q3 hk5 hP5 hPk hMk hE5 hE6 hEk hP
        by_cases hin : s.incE n = 0
        · obtain ⟨y1, y2, y3, y4, y5, y6⟩ := Pl.inc_dec hok hin
          rw [hin] at q4
          clear hin
          go_wp2_with fail
          refine q4.mono ?_
          rintro e w7 ⟨m7, rfl, hP7, mv7⟩
          have hk7 := hk6.moved mv7
          have hM7 := hM6.trans mv7
          have q5 := dec_any hP7 (by omega) (by have := mv7.x.size; omega) n
          rw [hM7.p, y1, y2] at q5
          clear q4 hk6 hM6
          go_wp2_with fail
          refine q5.mono ?_
          rintro e w8 ⟨m8, rfl, hP8, mv8⟩
          have hk8 := hk7.moved mv8
          have hM8 := hM7.trans mv8
          have q6 := count_pool hP8 n
          rw [hM8.p, y3] at q6
          clear q5 hk7 hM7
          go_wp2_with fail
          refine q6.mono ?_
          rintro e w9 ⟨rfl, rfl⟩
          have q7 := mark_wide hP8 (by omega)
          rw [hM8.p, y5] at q7
          clear q6
          go_wp2_with fail
          refine q7.mono ?_
          rintro e w9 ⟨rfl, hE9⟩
          have hP9 := hP8.ext hE9
          have hk9 := hk8.ext hE9
          have q8 := state_pool hP9 n
          rw [hM8.p, y3, y4] at q8
          have iw : IntKind.i64.wrap ((s.acts.length : Int) + 2) = (s.acts.length : Int) + 2 := IntWalk.i64_in _ (by omega)
          clear q7 hk8
          go_wp2_with fail
          refine q8.mono ?_
          rintro e w10 ⟨rfl, rfl⟩
          have q9 := counts_any hP9
          rw [hM8.p, y3] at q9
          clear q8
          go_wp2_with fail
          refine q9.mono ?_
          rintro e w10 ⟨A2, c2, rfl, hR2, hE10⟩
          have hk10 := hk9.ext hE10
          have hq := eqi_any (RowI.nlc hR2 hok) hk10.nl (by omega) (by omega)
          rw [decide_eq_true rfl] at hq
          have hEx := hM8.toExt hP0 HE.out hBs
          clear q9
          go_wp2_with fail
          refine hq.mono ?_
          rintro e w11 ⟨rfl, hE11⟩
          go_wp2
          go_ret
          exact ⟨rfl, hEx.trans (hE9.trans (hE10.trans hE11))⟩
        · obtain ⟨y1, y2⟩ := Pl.inc_no hin
          have hne : (s.incE n != 0) = true := by simpa using hin
          obtain ⟨E, hEE⟩ : ∃ E, s.incE n = E := ⟨_, rfl⟩
          rw [hEE] at q4 hne
          rw [y1] at q4
          clear hin hEE y1
          go_wp2_with fail
          refine q4.mono ?_
          rintro e w7 ⟨m7, rfl, hP7, mv7⟩
          have hk7 := hk6.moved mv7
          have hM7 := hM6.trans mv7
          have q7 := mark_wide hP7 (by omega)
          rw [hM7.p] at q7
          clear q4 hk6 hM6
          go_wp2_with fail
          refine q7.mono ?_
          rintro e w9 ⟨rfl, hE9⟩
          have hP9 := hP7.ext hE9
          have hk9 := hk7.ext hE9
          have q9 := counts_any hP9
          rw [hM7.p] at q9
          clear q7 hk7
          go_wp2_with fail
          refine q9.mono ?_
          rintro e w10 ⟨A2, c2, rfl, hR2, hE10⟩
          have hk10 := hk9.ext hE10
          have hP10 := hP9.ext hE10
          have hq := eqi_any (RowI.nlc hR2 hok) hk10.nl (by omega) (by omega)
          rw [decide_eq_true rfl] at hq
          have hEx := hM7.toExt hP0 HE.out hBs
          clear q9
          go_wp2_with fail
          refine hq.mono ?_
          rintro e w11 ⟨rfl, hE11⟩
          have hP11 := hP10.ext hE11
          have q10 := count_pool hP11 n
          have q11 := refs_pool hP11
          rw [hM7.p] at q10 q11
          have hE14 := hEx.trans (hE9.trans (hE10.trans hE11))
          clear hq hEx hE9 hE10 hE11
          rcases y2 with y2 | y2
          · rw [y2] at q10
            clear y2
            go_wp2_with fail
            refine q10.mono ?_
            rintro e w12 ⟨rfl, rfl⟩
            go_wp2
            go_ret
            exact ⟨rfl, hE14⟩
          · have hr0 := hok.refs
            have b0 : (s.refs == 0) = false := by simp; omega
            have b1 : (s.refs == s.refs) = true := by simp
            rw [y2] at q10
            clear y2
            go_wp2_with fail
            refine q10.mono ?_
            rintro e w12 ⟨rfl, rfl⟩
            go_wp2_with fail
            refine q10.mono ?_
            rintro e w12 ⟨rfl, rfl⟩
            go_wp2_with fail
            refine q11.mono ?_
            rintro e w12 ⟨rfl, rfl⟩
            go_wp2
            go_ret
            exact ⟨rfl, hE14⟩
end Go.Proofs.Ytaalhicdeibodaa
