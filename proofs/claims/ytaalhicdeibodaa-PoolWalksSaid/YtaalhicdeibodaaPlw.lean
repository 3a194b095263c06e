/- Layer 10: the walk of PoolWalks. No condition but the sizes. -/
import Derived.Test.YtaalhicdeibodaaPpp
import Derived.Test.YtaalhicdeibodaaLoopt
namespace Go.Proofs.Ytaalhicdeibodaa
open Go.RowKit Go.Proofs Go.Shelf
set_option linter.unusedVariables false
attribute [local go_sem] Oper.semAt_some
set_option maxRecDepth 100000 in
set_option maxHeartbeats 4000000 in
theorem pwalks_any {w : World} {v : Value} {b : Bgn} {A0 : Option Addr} {c0 : Nat} {l : List Opp} {A9 : Option Addr} {c9 : Nat} {l9 : List Opp} (hb : BgV w v b) (hl0 : OPP w A0 c0 l) (hl9 : OPP w A9 c9 l9) {kk : Int} :
    Calls Try.prog 4 #[v, .slice A0 l.length c0, .slice A9 l9.length c9, .int .i64 kk] w fun e w' => e = .returned (.bool true) ∧ Ext w w' := by
  obtain ⟨⟨A, c, rfl, hx, hl⟩⟩ := hb
  have hE1 := ext_alloc w (Obj.cells #[.bool b.ld, .int .i64 b.pages, .int .i64 b.refs, .slice A b.cs.length c] 24)
  have hbn := heap_alloc_new w (Obj.cells #[.bool b.ld, .int .i64 b.pages, .int .i64 b.refs, .slice A b.cs.length c] 24)
  have hf := fixed_any (w := w.alloc (Obj.cells #[.bool b.ld, .int .i64 b.pages, .int .i64 b.refs, .slice A b.cs.length c] 24))
  obtain ⟨N, hN⟩ : ∃ N, min l.length 60 = N := ⟨_, rfl⟩
  have hL := hl0.cut N
  have hln : (l.take N).length = N := by rw [List.length_take]; omega
  have hmn : (if (60 : Int) < (l.length : Int) then 60 else (l.length : Int)) = (N : Int) := by split <;> omega
  have hnl : N ≤ l.length := by omega
  have hn2 : N ≤ 60 := by omega
  have hlc := hl0.le
  have hcap := hl0.cap
  have hnc : N ≤ c0 := by omega
  obtain ⟨L, hLL⟩ : ∃ L, l.take N = L := ⟨_, rfl⟩
  rw [hLL] at hL hln
  have HLN := Lib.hid hln
  clear hN hln hLL hl0
  obtain ⟨N2, hN2⟩ : ∃ N2, min l9.length 60 = N2 := ⟨_, rfl⟩
  have hL2 := hl9.cut N2
  have hln2 : (l9.take N2).length = N2 := by rw [List.length_take]; omega
  have hmn2 : (if (60 : Int) < (l9.length : Int) then 60 else (l9.length : Int)) = (N2 : Int) := by split <;> omega
  have hnl2 : N2 ≤ l9.length := by omega
  have hn22 : N2 ≤ 60 := by omega
  have hlc2 := hl9.le
  have hcap2 := hl9.cap
  have hnc2 : N2 ≤ c9 := by omega
  obtain ⟨L2, hLL2⟩ : ∃ L2, l9.take N2 = L2 := ⟨_, rfl⟩
  rw [hLL2] at hL2 hln2
  have HLN2 := Lib.hid hln2
  clear hN2 hln2 hLL2 hl9
  refine (callsIn_wide (n := 0)).1 ?_
  refine callsIn_of_wp_marks Try.func4 rfl trivial ?_
  simp only [Try.ntmps4, List.size_toArray, List.length_cons, List.length_nil, Nat.reduceAdd, Nat.reduceSub, Array.replicate_succ, Array.replicate_zero, List.push_toArray, List.append_toArray, List.nil_append, List.cons_append]
  have hnil := walkI_nil
  gi_wp2
  refine ⟨trivial, rfl, (callsIn_wide.2 hf).mono ?_⟩
  rintro e w2 ⟨rfl, hE2⟩
  have hb2 := hE2.blk hbn
  have d0 := cell_of_row w2 w.heap.size 0 _ _ _ hb2
  have d1 := cell_of_row w2 w.heap.size 1 _ _ _ hb2
  have d2 := cell_of_row w2 w.heap.size 2 _ _ _ hb2
  have d3 := cell_of_row w2 w.heap.size 3 _ _ _ hb2
  simp only [List.getElem?_toArray, List.getElem?_cons_zero, List.getElem?_cons_succ] at d0 d1 d2 d3
  have hE12 := hE1.trans hE2
  have hm := made_any b (hx.ext hE12) hl
  clear hf hbn hb2 hE1 hE2
  gi_wp2
  refine ⟨trivial, rfl, (callsIn_wide.2 hm).mono ?_⟩
  rintro e w3 ⟨v, u, rfl, hmd, hE3⟩
  have hE13 := hE12.trans hE3
  have hBs := hE12.size
  have hBs3 := hE3.size
  clear hm d0 d1 d2 d3 hE12
  rcases hmd with ⟨_, rfl, rfl⟩ | ⟨_, m, r, rfl, rfl, hBo⟩
  · gi_wp2
    exact ⟨_, results_tmp rfl _ _ _, rfl, hE13⟩
  · have hP := hBo.p
    have hP0 := hP
    clear hBo hE3
    have HE := Lib.hid hE13
    gi_wp2
    gi_loopw [12] (fun i wr => ∃ (k : Nat) (m' : Pm), k ≤ N ∧ i = .int .i64 k ∧ PoolS w2.heap.size k wr m' (didL b.s (L.take k)) ∧ Moved m m' w3 wr) (fun i _ => N - (intOf i).toNat)
    case atStart => exact ⟨0, m, by omega, rfl, hP, Moved.refl _ _⟩
    case round =>
      obtain ⟨k, m', hk, rfl, hPk, hMk⟩ := hrel
      have hEk := hMk.toExt hP hE13 hBs
      have hws := hMk.x.size
      by_cases hkN : k < N
      · have hki : (k : Int) < (N : Int) := by omega
        obtain ⟨o, ho⟩ : ∃ o, L[k]? = some o := ⟨_, List.getElem?_eq_getElem (by rw [HLN.out]; exact hkN)⟩
        obtain ⟨bb, off, rfl, _, hcl⟩ := (hL.ext hEk).rd (by rw [HLN.out]; omega)
        obtain ⟨z0, z1, z2⟩ := hcl k o ho
        have hkc : k < c0 := by omega
        have hc := acted_any hPk (by omega) (by omega) o.k o.n o.t
        rw [← didL_step _ ho, hMk.p] at hc
        clear hcl
        gi_wp2
        refine ⟨trivial, rfl, (callsIn_wide.2 hc).mono ?_⟩
        rintro e w5 ⟨m2, rfl, h2, mv2⟩
        have hM2 := hMk.trans mv2
        clear hc z0 z1 z2 hPk hMk mv2 hEk
        gi_wp2
        go_roundw
        case rel => exact ⟨k + 1, m2, by omega, by go_num, h2, hM2⟩
        case measure => simp [intOf]; omega
      · obtain rfl : k = N := by omega
        obtain ⟨s, hs⟩ : ∃ s, didL b.s (L.take k) = s := ⟨_, rfl⟩
        rw [hs] at hPk
        clear hs hkN
        have hok := hPk.ok
        have q1 := walked_any hPk kk (-1)
        rw [stopL_neg, hMk.p] at q1
        gi_wp2
        refine ⟨trivial, rfl, (callsIn_wide.2 q1).mono ?_⟩
        rintro e w5 ⟨A1, c1, rfl, hR1, hE5⟩
        have hP5 := hPk.ext hE5
        have hk5 := Kep.of_row hR1 (hR1.nlp hok) hPk
        have q2 := pages_any hP5 kk
        rw [hMk.p] at q2
        clear q1 hR1
        gi_wp2
        refine ⟨trivial, rfl, (callsIn_wide.2 q2).mono ?_⟩
        rintro e w6 ⟨bw, A2, c2, rfl, hbw, hW6, hE6⟩
        have hk6 := hk5.ext hE6
        have hP6 := hP5.ext hE6
        have hE5' := hEk.trans (hE5.trans hE6)
        have hws5 := hE5.size
        have hs6 := hE6.size
        have hfo : ¬ m'.foot bw := fun e => by have := (hP5.foot_lt e).2; omega
        have hfa : ∀ q, blkOf A2 = some q → ¬ m'.foot q := fun q hq e => by
          have h1 := (hP5.foot_lt e).2
          have h2 := (World.ownsRow.lt hW6.row q (by rw [ownBlock_eq]; exact hq)).1
          omega
        have HMP := Lib.hid hMk.p
        have hfn := hnil bw
        have hpb := pages_bd hok kk
        obtain ⟨pl, hpl⟩ : ∃ l, s.pages kk = l := ⟨_, rfl⟩
        rw [hpl] at hW6 hk6 hpb ⊢
        clear q2 hk5 hP5 hPk hMk hE5 hE6 hEk hP hpl hws hP0
        gi_wp2
        gi_loopw [15] (fun i wr => ∃ (j : Nat) (m' : Pm) (s' : Pl), j ≤ N2 ∧ i = .int .i64 j ∧ PoolS w2.heap.size (k + j) wr m' s' ∧ Hid (m'.p = m.p) ∧ Kep m' wr A1 c1 pl ∧ WalkI w5.heap.size bw A2 c2 wr pl ∧ ¬ m'.foot bw ∧ (∀ q, blkOf A2 = some q → ¬ m'.foot q) ∧ Ext w wr) (fun i _ => N2 - (intOf i).toNat)
        case atStart => exact ⟨0, m', s, by omega, rfl, hP6, HMP, hk6, hW6, hfo, hfa, hE5'⟩
        case round =>
          clear hP6 HMP hk6 hW6 hfo hfa hE5'
          obtain ⟨j, m', s', hj, rfl, hP, HMP, hK, hW, hfo, hfa, hE⟩ := hrel
          by_cases hjN : j < N2
          · have hji : (j : Int) < (N2 : Int) := by omega
            obtain ⟨o, ho⟩ : ∃ o, L2[j]? = some o := ⟨_, List.getElem?_eq_getElem (by rw [HLN2.out]; exact hjN)⟩
            obtain ⟨b9, off, rfl, _, hcl⟩ := (hL2.ext hE).rd (by rw [HLN2.out]; omega)
            obtain ⟨z0, z1, z2⟩ := hcl j o ho
            have hjc : j < c9 := by omega
            have hBw : w2.heap.size ≤ wr.heap.size := by
              have := (Array.getElem?_eq_some_iff.1 hW.hd).1
              obtain ⟨L, hM, _⟩ := hP.mem
              have h1 := hM.geP
              have h2 := (Array.getElem?_eq_some_iff.1 hM.hd).1
              omega
            have hc := acted_any hP (by omega) hBw o.k o.n o.t
            rw [HMP.out] at hc
            clear hcl
            gi_wp2
            refine ⟨trivial, rfl, (callsIn_wide.2 hc).mono ?_⟩
            rintro e w7 ⟨m2, rfl, h2, mv2⟩
            have hP7 := h2
            have HMP7 := Lib.hid (mv2.p.trans HMP.out)
            have hK7 := hK.moved mv2
            have hW7 := hW.exc mv2.x (fun _ e => hfo e) (fun q _ hq e => hfa q hq e)
            have hlt := (Array.getElem?_eq_some_iff.1 hW.hd).1
            have hfo7 : ¬ m2.foot bw := fun e => (mv2.foot bw e).elim hfo (fun e => by omega)
            have hfa7 : ∀ q, blkOf A2 = some q → ¬ m2.foot q := fun q hq e => (mv2.foot q e).elim (hfa q hq) (fun e => by
              have := (World.ownsRow.lt hW.row q (by rw [ownBlock_eq]; exact hq)).2
              omega)
            have hE7 := mv2.toExt hP hE hBs
            clear hc z0 z1 z2 hP HMP hK hW hfo hfa hE mv2 h2
            gi_wp2
            go_roundw
            case rel => exact ⟨j + 1, m2, _, by omega, by go_num, hP7, HMP7, hK7, hW7, hfo7, hfa7, hE7⟩
            case measure => simp [intOf]; omega
          · obtain rfl : j = N2 := by omega
            have hN1 := hK.nl
            have hwr0 := hE.size
            clear hP HMP hK hfo hfa
            gi_wp2
            refine wpIn_loop_tq [16, 17, 18, 76, 77, 78, 79, 80, 81, 82, 83, 84, 85, 86, 87, 88, 89, 90, 91, 92, 93, 94, 95, 96, 97, 98, 99, 100, 101, 102] [?u16, ?u17, ?u18, ?u76, ?u77, ?u78, ?u79, ?u80, ?u81, ?u82, ?u83, ?u84, ?u85, ?u86, ?u87, ?u88, ?u89, ?u90, ?u91, ?u92, ?u93, ?u94, ?u95, ?u96, ?u97, ?u98, ?u99, ?u100, ?u101, ?u102] (fun n us ds V => ∃ (j g : Nat) (Es : List Nat), n + j = 3 ∧ us.getD 0 undef = .pointer (some ⟨g, 0, none⟩) ∧ wr.heap.size ≤ g ∧ V.heap[g]? = some (.cells #[.int .i64 j] 3 (0, 0)) ∧ ds = marksD Es ∧ Es.Nodup ∧ (∀ E ∈ Es, wr.heap.size ≤ E ∧ V.heap[E]? = some (.deferred (some []))) ∧ Ext wr V) 3 rfl ?htm ?h0 ?hround
            case htm =>
              simp only [setAll, List.zip_cons_cons, List.zip_nil_right, List.foldl_cons, List.foldl_nil, List.setIfInBounds_toArray, List.set_cons_succ, List.set_cons_zero]
              rfl
            case h0 => exact ⟨0, wr.heap.size, [], rfl, rfl, Nat.le_refl _, heap_alloc_new _ _, rfl, List.nodup_nil, fun E h => (by cases h), ext_alloc _ _⟩
            case hround =>
              rintro R n us ds V hlen ⟨j, g, Es, hnj, hu0, hg, hcell, rfl, hnd, hEs, hV⟩ HR HX
              match us, hlen with
              | [u16, u17, u18, u76, u77, u78, u79, u80, u81, u82, u83, u84, u85, u86, u87, u88, u89, u90, u91, u92, u93, u94, u95, u96, u97, u98, u99, u100, u101, u102], _ =>
              simp only [setAll, List.zip_cons_cons, List.zip_nil_right, List.foldl_cons, List.foldl_nil, List.setIfInBounds_toArray, List.set_cons_succ, List.set_cons_zero]
              have hu16 : u16 = .pointer (some ⟨g, 0, none⟩) := hu0
              subst hu16
              have y0 := cell_of_row V g 0 _ _ _ hcell
              simp only [List.getElem?_toArray, List.getElem?_cons_zero] at y0
              by_cases hj3 : j = 3
              · subst hj3
                gi_wp2
                refine HX.out _ _ _ (by simp) ?_
                clear HX HR
                gi_wp2
                refine leaves_marks Es V hnd (fun E h => (hEs E h).2) (fun V' h1 h2 h3 h4 h5 => ⟨_, results_tmp rfl _ _ _, rfl, ?_⟩)
                have hwV := hE.trans hV
                refine ⟨h2.trans hwV.os, h3.trans hwV.tape, h4.trans hwV.output, by rw [h5]; exact hwV.size, fun q hq => ?_⟩
                rw [h1 q (fun hm => by have := (hEs q hm).1; omega)]
                have h6 : w.heap[q]? = some w.heap[q] := Array.getElem?_eq_getElem hq
                rw [h6]
                exact hwV.blk h6
              · have hj3' : (j : Int) < 3 := by omega
                obtain ⟨V2, hV2⟩ : ∃ U, (V.alloc (Obj.cells #[] 3)).alloc (Obj.cells #[.slice (some ⟨V.heap.size, 0, none⟩) 0 0] 22) = U := ⟨_, rfl⟩
                have hE2 : Ext V V2 := by rw [← hV2]; exact (ext_alloc _ _).trans (ext_alloc _ _)
                have ho0 : V2.heap[V.heap.size + 1]? = some (.cells #[.slice (some ⟨V.heap.size, 0, none⟩) 0 0] 22 (0, 0)) := by
                  rw [← hV2]
                  have := heap_alloc_new (V.alloc (Obj.cells #[] 3)) (Obj.cells #[.slice (some ⟨V.heap.size, 0, none⟩) 0 0] 22)
                  rwa [World.size_alloc] at this
                have hl0 : V2.ownsRow V.heap.size 3 1 (.slice (some ⟨V.heap.size, 0, none⟩) 0 0) 0 [] := by
                  rw [← hV2]
                  exact own_ext (World.ownsRow_lit (base := V.heap.size) (e := 3) (size := 1) V #[] 0 (by simp) (by decide) rfl) (ext_alloc _ _)
                have hs2 : V2.heap.size = V.heap.size + 2 := by rw [← hV2]; simp
                have hW2 := hW.ext (hV.trans hE2)
                have hVs := hV.size
                have hbw2 := (Array.getElem?_eq_some_iff.1 hW.hd).1
                have hgw : ∀ q, (Value.slice A2 pl.length c2).ownBlock = some q → q < wr.heap.size := fun q hq => (World.ownsRow.lt hW.row q hq).2
                have fin : ∀ (U U2 : World) (E : Nat) (us' : List Value), Ext V U → Ext U U2 → V2.heap.size ≤ E → U.heap[E]? = some (.deferred (some [])) → us'.getD 0 undef = .pointer (some ⟨U2.heap.size, 0, none⟩) →
                    ∃ (j' g' : Nat) (Es' : List Nat), n - 1 + j' = 3 ∧ us'.getD 0 undef = .pointer (some ⟨g', 0, none⟩) ∧ wr.heap.size ≤ g' ∧ (U2.alloc (Obj.cells #[.int .i64 ((j : Int) + 1)] 3)).heap[g']? = some (.cells #[.int .i64 j'] 3 (0, 0)) ∧ ({ target := .collected E, args := #[] } :: marksD Es : List Deferred) = marksD Es' ∧ Es'.Nodup ∧ (∀ E ∈ Es', wr.heap.size ≤ E ∧ (U2.alloc (Obj.cells #[.int .i64 ((j : Int) + 1)] 3)).heap[E]? = some (.deferred (some []))) ∧ Ext wr (U2.alloc (Obj.cells #[.int .i64 ((j : Int) + 1)] 3)) := by
                  intro U U2 E us' g1 g2 g3 g4 g5
                  have g6 := g2.trans (ext_alloc U2 (Obj.cells #[.int .i64 ((j : Int) + 1)] 3))
                  have g7 := g1.trans g6
                  have z1 := g1.size
                  have z2 := g2.size
                  refine ⟨j + 1, U2.heap.size, E :: Es, by omega, g5, by omega, ?_, rfl, List.nodup_cons.2 ⟨fun hm => ?_, hnd⟩, ?_, hV.trans g7⟩
                  · rw [show ((j + 1 : Nat) : Int) = (j : Int) + 1 by omega]
                    exact heap_alloc_new _ _
                  · have := (Array.getElem?_eq_some_iff.1 (hEs E hm).2).1
                    omega
                  · intro E' hm
                    rcases List.mem_cons.1 hm with rfl | hm
                    · exact ⟨by omega, g6.blk g4⟩
                    · exact ⟨(hEs E' hm).1, g7.blk (hEs E' hm).2⟩
                have hn0 : 0 < n := by omega
                have HN0 := Lib.hid hn0
                clear hn0
                have FIN := Lib.hid fin
                clear fin
                gi_wp2
                try rw [hV2]
                refine wpIn_rangeZ (α := Int) rfl (enters_of Try.func40 (by kernel_rfl) rfl)
                  (pages_seq (Dk := fun q => q = V.heap.size + 1 ∨ V2.heap.size + 2 ≤ q) hW2 (by omega) (by omega) (fun q hq h => by have := hgw q hq; omega))
                  (fun q h => h.elim) (by omega) (by omega) (fun _ => rfl)
                  (fun pre U => OutI (V.heap.size + 1) V.heap.size V2 pre U ∧ (j = 1 → pre = []))
                  (fun cc pre U => cc = .exit 6 ∧ OutI (V.heap.size + 1) V.heap.size V2 pre U ∧ j = 1) ?hI ?hIx ?h0
                  (fun x => [(82, .int .i64 x), (18, .int .i64 x)]) ?assign ?body ?done ?stop
                case hI =>
                  rintro s' A' B' row ⟨x1, x3⟩ hg hrw
                  exact ⟨x1.abide hg hrw, x3⟩
                case hIx =>
                  rintro cc s' A' B' row ⟨x0, x1, x2⟩ hg hrw
                  exact ⟨x0, x1.abide hg hrw, x2⟩
                case h0 => exact ⟨⟨some ⟨V.heap.size, 0, none⟩, 0, exc_refl _ _, ho0, hl0, .inl rfl⟩, fun _ => rfl⟩
                case assign =>
                  intro l2 y U K hsz hK
                  simp only [setAll, List.foldl_cons, List.foldl_nil, List.setIfInBounds_toArray, List.set_cons_succ, List.set_cons_zero] at hK
                  gi_wp2
                  exact hK
                case body =>
                  rintro l2 pre x U ⟨⟨A', c', h1, h2, h3, h4⟩, hst⟩ hsp hsz
                  simp only [setAll, List.foldl_cons, List.foldl_nil, List.setIfInBounds_toArray, List.set_cons_succ, List.set_cons_zero]
                  obtain ⟨i0, hi, hz0, hz1, hz2⟩ := info_split infoI
                  have hgV := (Array.getElem?_eq_some_iff.1 hcell).1
                  have h5 := h1.blk (hE2.blk hcell) (by omega)
                  have q5 := cell_of_row U g 0 _ _ _ h5
                  have q7 := cell_of_row U (V.heap.size + 1) 0 _ _ _ h2
                  simp only [List.getElem?_toArray, List.getElem?_cons_zero] at q5 q7
                  have hlp : pre.length < 65536 := by
                    obtain ⟨t, ht⟩ := hsp
                    have := congrArg List.length ht
                    simp at this
                    omega
                  have hstep := fun (w3 : World) (A3 : Option Addr) (c3 : Nat) ho3 hc => OutI.step (w3 := w3) (A3 := A3) (c3 := c3) (x := x) (show V.heap.size ≤ V2.heap.size by omega) (show V.heap.size + 1 < V2.heap.size by omega) h1 h2 h3 h4 hsz ho3 hc (.inr trivial)
                  obtain ⟨nn, hn⟩ : ∃ n, pre.length = n := ⟨_, rfl⟩
                  have h3' := h3
                  have h2' := h2
                  unfold RowI at h3'
                  rw [hn] at h3' q7 hstep h2' hlp
                  have HN := Lib.hid hn
                  clear h3 h4 hn h2
                  by_cases hj1 : j = 1
                  · have hp0 := hst hj1
                    have hb1 : ((j : Int) == 1) = true := by simp; omega
                    have hb0 : ((nn : Int) + 1 == 1) = true := by
                      have := HN.out
                      rw [hp0] at this
                      simp at this
                      simp
                      omega
                    have HJ := Lib.hid hj1
                    clear hj1 hp0
                    gi_wp2_with (refine wpListIn_append_apart rfl _ _ 22 rfl V.heap.size 3 i0 _ 1 8 Try.underlying22 hi hz0 hz1 hz2 rfl (by decide) _ nn _ rfl (h3'.alloc _) ⟨U.heap.size, 0, none⟩ 1 1 [.int .i64 x] rfl rfl (news_int _ _ _) (int_one _) (by decide) (by unfold maxLen; omega) (by omega) (by simp; omega) ?_; intro v' w3 ho3 hc3; obtain ⟨A3, c3, rfl⟩ := slice_of_own ho3; have hb3 := app_blk (h3'.alloc _) hc3 ((ext_alloc U _).blk h2') (by decide); have q3 := cell_of_row _ _ 0 _ _ _ hb3; have f3 := frozen_of_row _ _ 0 _ _ hb3; simp only [List.getElem?_toArray, List.getElem?_cons_zero] at q3; have q3' := cell_of_row _ _ 0 _ _ _ (heap_setCell_same w3 (V.heap.size + 1) 0 _ _ (.slice A3 (nn + 1) c3) hb3); have hb5 : w3.heap[g]? = some (Obj.cells #[.int .i64 j] 3) := (by obtain ⟨row, g1, r1⟩ := grown_row (h3'.alloc _) hc3; exact (g1.block _ (by simp; omega) (fun e => by have := (r1 _ e.symm).1; omega)).trans ((ext_alloc U _).blk h5)); have q5' := cell_of_row _ _ 0 _ _ _ (blk_keep (i := 0) (v := .slice A3 (nn + 1) c3) hb5 (show g ≠ V.heap.size + 1 by omega)); simp only [List.getElem?_toArray, List.getElem?_cons_zero, List.setIfInBounds_toArray, List.set_cons_zero] at q3' q5')
                    obtain ⟨o1, o2⟩ := hstep w3 A3 c3 ho3 hc3
                    exact ⟨⟨o2.os, o2.tape, o2.output, o2.size, fun q o ho hn => o2.block q o ho (fun e => hn (.inl e))⟩, rfl, o1, HJ.out⟩
                  · have hb1 : ((j : Int) == 1) = false := by simp; omega
                    gi_wp2_with (refine wpListIn_append_apart rfl _ _ 22 rfl V.heap.size 3 i0 _ 1 8 Try.underlying22 hi hz0 hz1 hz2 rfl (by decide) _ nn _ rfl (h3'.alloc _) ⟨U.heap.size, 0, none⟩ 1 1 [.int .i64 x] rfl rfl (news_int _ _ _) (int_one _) (by decide) (by unfold maxLen; omega) (by omega) (by simp; omega) ?_; intro v' w3 ho3 hc3; obtain ⟨A3, c3, rfl⟩ := slice_of_own ho3; have hb3 := app_blk (h3'.alloc _) hc3 ((ext_alloc U _).blk h2') (by decide); have q3 := cell_of_row _ _ 0 _ _ _ hb3; have f3 := frozen_of_row _ _ 0 _ _ hb3; simp only [List.getElem?_toArray, List.getElem?_cons_zero] at q3; have q3' := cell_of_row _ _ 0 _ _ _ (heap_setCell_same w3 (V.heap.size + 1) 0 _ _ (.slice A3 (nn + 1) c3) hb3); have hb5 : w3.heap[g]? = some (Obj.cells #[.int .i64 j] 3) := (by obtain ⟨row, g1, r1⟩ := grown_row (h3'.alloc _) hc3; exact (g1.block _ (by simp; omega) (fun e => by have := (r1 _ e.symm).1; omega)).trans ((ext_alloc U _).blk h5)); have q5' := cell_of_row _ _ 0 _ _ _ (blk_keep (i := 0) (v := .slice A3 (nn + 1) c3) hb5 (show g ≠ V.heap.size + 1 by omega)); simp only [List.getElem?_toArray, List.getElem?_cons_zero, List.setIfInBounds_toArray, List.set_cons_zero] at q3' q5')
                    obtain ⟨o1, o2⟩ := hstep w3 A3 c3 ho3 hc3
                    exact ⟨⟨o2.os, o2.tape, o2.output, o2.size, fun q o ho hn => o2.block q o ho (fun e => hn (.inl e))⟩, o1, fun e => absurd e hj1⟩
                case done =>
                  rintro E xs U rfl ⟨⟨A', c', h1, h2, h3, h4⟩, hj1⟩ hEs' hKE
                  have hgV := (Array.getElem?_eq_some_iff.1 hcell).1
                  have h5 := h1.blk (hE2.blk hcell) (by omega)
                  have q5 := cell_of_row U g 0 _ _ _ h5
                  have q7 := cell_of_row U (V.heap.size + 1) 0 _ _ _ h2
                  simp only [List.getElem?_toArray, List.getElem?_cons_zero] at q5 q7
                  have hVU : Ext V U := h1.to_ext hE2 (fun q o e => by omega)
                  have hEU : Ext wr U := hV.trans hVU
                  by_cases hj2 : j = 1
                  · have hb1 : ((j : Int) != 1) = false := by simp; omega
                    have iw : IntKind.i64.wrap ((j : Int) + 1) = (j : Int) + 1 := IntWalk.i64_in _ (by omega)
                    have q8 := cell_of_row _ _ 0 _ _ _ (heap_alloc_new U (Obj.cells #[.int .i64 j] 3))
                    have f8 := frozen_of_row _ _ 0 _ _ (heap_alloc_new U (Obj.cells #[.int .i64 j] 3))
                    simp only [List.getElem?_toArray, List.getElem?_cons_zero] at q8
                    have HKE := Lib.hid hKE
                    clear hpb hN1 hL hL2 hnil hEs hKE h1 h2 h3 h4 hj1 hj2 hV hE hW hW2 ho0 hl0 hE2 hcell hfn
                    gi_wp2
                    refine ⟨trivial, ?_⟩
                    gi_wp2
                    refine round_end [?b16, ?b17, ?b18, ?b76, ?b77, ?b78, ?b79, ?b80, ?b81, ?b82, ?b83, ?b84, ?b85, ?b86, ?b87, ?b88, ?b89, ?b90, ?b91, ?b92, ?b93, ?b94, ?b95, ?b96, ?b97, ?b98, ?b99, ?b100, ?b101, ?b102] rfl HR HN0.out ?eq1 ?_
                    case eq1 =>
                      simp only [setAll, List.zip_cons_cons, List.zip_nil_right, List.foldl_cons, List.foldl_nil, List.setIfInBounds_toArray, List.set_cons_succ, List.set_cons_zero]
                      rfl
                    exact FIN.out U U E _ hVU (Below.refl _ _) hEs' HKE.out (by rfl)
                  · have hb1 : ((j : Int) != 1) = true := by simp; omega
                    have hq := eqi_any (RowI.nl h3 (fun z hz => by have := hpb.2 z hz; have := hok.len.2; omega)) (hN1.ext hEU) (by omega) (by omega)
                    rw [decide_eq_true rfl] at hq
                    have HKE := Lib.hid hKE
                    clear hpb hN1 hL hL2 hnil hEs hKE h1 h2 h3 h4 hj1 hV hE hW hW2 ho0 hl0 hE2 hcell
                    gi_wp2
                    refine ⟨trivial, rfl, (callsIn_wide.2 hq).mono ?_⟩
                    rintro e w8 ⟨rfl, hE8⟩
                    have h6 := hE8.blk h5
                    have q6 := cell_of_row w8 g 0 _ _ _ h6
                    simp only [List.getElem?_toArray, List.getElem?_cons_zero] at q6
                    have iw : IntKind.i64.wrap ((j : Int) + 1) = (j : Int) + 1 := IntWalk.i64_in _ (by omega)
                    have q8 := cell_of_row _ _ 0 _ _ _ (heap_alloc_new w8 (Obj.cells #[.int .i64 j] 3))
                    have f8 := frozen_of_row _ _ 0 _ _ (heap_alloc_new w8 (Obj.cells #[.int .i64 j] 3))
                    simp only [List.getElem?_toArray, List.getElem?_cons_zero] at q8
                    clear hq q5 q7 hfn
                    gi_wp2
                    refine round_end [?c16, ?c17, ?c18, ?c76, ?c77, ?c78, ?c79, ?c80, ?c81, ?c82, ?c83, ?c84, ?c85, ?c86, ?c87, ?c88, ?c89, ?c90, ?c91, ?c92, ?c93, ?c94, ?c95, ?c96, ?c97, ?c98, ?c99, ?c100, ?c101, ?c102] rfl HR HN0.out ?eq2 ?_
                    case eq2 =>
                      simp only [setAll, List.zip_cons_cons, List.zip_nil_right, List.foldl_cons, List.foldl_nil, List.setIfInBounds_toArray, List.set_cons_succ, List.set_cons_zero]
                      rfl
                    exact FIN.out U w8 E _ hVU hE8 hEs' HKE.out (by rfl)
                case stop =>
                  rintro E cc pre U _ ⟨rfl, ⟨A', c', h1, h2, h3, h4⟩, hj1⟩ hEs' hKE
                  have hgV := (Array.getElem?_eq_some_iff.1 hcell).1
                  have h5 := h1.blk (hE2.blk hcell) (by omega)
                  have q5 := cell_of_row U g 0 _ _ _ h5
                  have q7 := cell_of_row U (V.heap.size + 1) 0 _ _ _ h2
                  simp only [List.getElem?_toArray, List.getElem?_cons_zero] at q5 q7
                  have hVU : Ext V U := h1.to_ext hE2 (fun q o e => by omega)
                  have hEU : Ext wr U := hV.trans hVU
                  have hb1 : ((j : Int) != 1) = false := by simp; omega
                  have iw : IntKind.i64.wrap ((j : Int) + 1) = (j : Int) + 1 := IntWalk.i64_in _ (by omega)
                  have q8 := cell_of_row _ _ 0 _ _ _ (heap_alloc_new U (Obj.cells #[.int .i64 j] 3))
                  have f8 := frozen_of_row _ _ 0 _ _ (heap_alloc_new U (Obj.cells #[.int .i64 j] 3))
                  simp only [List.getElem?_toArray, List.getElem?_cons_zero] at q8
                  have HKE := Lib.hid hKE
                  have HJ1 := Lib.hid hj1
                  clear hpb hN1 hL hL2 hnil hEs hKE h1 h2 h3 h4 hj1 hV hE hW hW2 ho0 hl0 hE2 hcell hfn
                  gi_wp2
                  refine ⟨trivial, ?_⟩
                  gi_wp2
                  refine round_end [?d16, ?d17, ?d18, ?d76, ?d77, ?d78, ?d79, ?d80, ?d81, ?d82, ?d83, ?d84, ?d85, ?d86, ?d87, ?d88, ?d89, ?d90, ?d91, ?d92, ?d93, ?d94, ?d95, ?d96, ?d97, ?d98, ?d99, ?d100, ?d101, ?d102] rfl HR HN0.out ?eq3 ?_
                  case eq3 =>
                    simp only [setAll, List.zip_cons_cons, List.zip_nil_right, List.foldl_cons, List.foldl_nil, List.setIfInBounds_toArray, List.set_cons_succ, List.set_cons_zero]
                    rfl
                  exact FIN.out U U E _ hVU (Below.refl _ _) hEs' HKE.out (by rfl)
end Go.Proofs.Ytaalhicdeibodaa
