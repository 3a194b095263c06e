/- Layer 10: the walk of PoolSettled. No condition but the sizes. -/
import Derived.Test.YtaalhicdeibodaaPpp
namespace Go.Proofs.Ytaalhicdeibodaa
open Go.RowKit Go.Proofs Go.Shelf
set_option linter.unusedVariables false
/-- Two pools that tell the same but for their marks. -/
structure Sim (s r : Pl) : Prop where
  refs : s.refs = r.refs
  cnt : s.cnt = r.cnt
  last : s.last = r.last
theorem Sim.act {s r : Pl} (h : Sim s r) (n b : Int) : Sim (s.act n b) (r.act n b) := ⟨h.refs, by show bump _ _ _ = bump _ _ _; rw [h.cnt], h.last⟩
theorem Sim.ask {s r : Pl} (h : Sim s r) {k : Int} (hk : 0 ≤ k ∧ k ≤ 11 ∧ k ≠ 8 ∧ k ≠ 9) (n t : Int) : r.askA k n t [] = s.askA k n t [] ∧ Sim (s.askS k n []) (r.askS k n []) := by
  obtain ⟨refs, cnt, last, acts, fl⟩ := s
  obtain ⟨refs', cnt', last', acts', fl'⟩ := r
  obtain ⟨h1, h2, h3⟩ := h
  dsimp only at h1 h2 h3
  subst h1 h2 h3
  have hS : Sim ⟨refs, cnt, last, acts, fl⟩ ⟨refs, cnt, last, acts', fl'⟩ := ⟨rfl, rfl, rfl⟩
  have hk2 : k = 0 ∨ k = 1 ∨ k = 2 ∨ k = 3 ∨ k = 4 ∨ k = 5 ∨ k = 6 ∨ k = 7 ∨ k = 10 ∨ k = 11 := by omega
  rcases hk2 with rfl | rfl | rfl | rfl | rfl | rfl | rfl | rfl | rfl | rfl
  · refine ⟨rfl, ?_⟩
    show Sim (Pl.allocS _) (Pl.allocS _)
    unfold Pl.allocS
    dsimp only [Pl.sts]
    split
    · exact hS
    · exact hS.act _ _
  · refine ⟨rfl, ?_⟩
    by_cases e : (⟨refs, cnt, last, acts, fl⟩ : Pl).incE n = 0
    · have e' : (⟨refs, cnt, last, acts', fl'⟩ : Pl).incE n = 0 := e
      show Sim (Pl.incS _ n) (Pl.incS _ n)
      unfold Pl.incS
      rw [if_pos e, if_pos e']
      exact hS.act _ _
    · have e' : ¬ (⟨refs, cnt, last, acts', fl'⟩ : Pl).incE n = 0 := e
      show Sim (Pl.incS _ n) (Pl.incS _ n)
      unfold Pl.incS
      rw [if_neg e, if_neg e']
      exact hS
  · have e : (⟨refs, cnt, last, acts', fl'⟩ : Pl).decN n = (⟨refs, cnt, last, acts, fl⟩ : Pl).decN n := by
      unfold Pl.decN Pl.decS
      dsimp only
      split <;> rfl
    refine ⟨by show (⟨_, 0, false, [], _⟩ : Ans) = ⟨_, 0, false, [], _⟩; rw [e]; rfl, ?_⟩
    show Sim (Pl.decS _ n) (Pl.decS _ n)
    unfold Pl.decS
    dsimp only
    split
    · exact hS
    · exact hS.act _ _
  · exact ⟨rfl, hS⟩
  · exact ⟨rfl, hS⟩
  · exact ⟨rfl, hS⟩
  · exact ⟨rfl, hS⟩
  · exact ⟨rfl, hS⟩
  · exact ⟨rfl, rfl, rfl, rfl⟩
  · exact ⟨rfl, hS⟩
theorem Sim.pages {s r : Pl} (h : Sim s r) (k : Int) : r.pages k = s.pages k := by
  unfold Pl.pages Pl.sts
  rw [h.cnt, h.last]
theorem load_fine {s : Pl} {N : Nat} (hok : s.Ok N) : loadE s.refs s.cnt = 0 := by
  have h1 := hok.refs
  have h2 := hok.len
  unfold loadE rightB
  rw [if_pos (decide_eq_true ⟨by omega, by omega, by omega, by omega⟩), if_pos]
  rw [List.all_eq_true]
  intro c hc
  exact decide_eq_true (hok.cnt c hc)
theorem nl_nil (w : World) : NLi w none 0 [] := ⟨fun h => absurd h (by simp), Nat.le_refl _, fun z hz => by cases hz⟩
set_option maxRecDepth 100000 in
set_option maxHeartbeats 4000000 in
theorem psettled_any {w : World} {v : Value} {b : Bgn} {A0 : Option Addr} {c0 : Nat} {l : List Opp} {A9 : Option Addr} {c9 : Nat} {l9 : List Opp} (hb : BgV w v b) (hl0 : OPP w A0 c0 l) (hl9 : OPP w A9 c9 l9) :
    Calls Try.prog 9 #[v, .slice A0 l.length c0, .slice A9 l9.length c9] w fun e w' => e = .returned (.bool true) ∧ Ext w w' := by
  obtain ⟨⟨A, c, rfl, hx, hl⟩⟩ := hb
  have hE1 := ext_alloc w (Obj.cells #[.bool b.ld, .int .i64 b.pages, .int .i64 b.refs, .slice A b.cs.length c] 24)
  have hbn := heap_alloc_new w (Obj.cells #[.bool b.ld, .int .i64 b.pages, .int .i64 b.refs, .slice A b.cs.length c] 24)
  have hf := fixed_any (w := w.alloc (Obj.cells #[.bool b.ld, .int .i64 b.pages, .int .i64 b.refs, .slice A b.cs.length c] 24))
  obtain ⟨N, hN⟩ : ∃ N, min l.length 60 = N := ⟨_, rfl⟩
  have hL := hl0.cut N
  have hln : (l.take N).length = N := by rw [List.length_take]; omega
  have hmn : (if (60 : Int) < (l.length : Int) then 60 else (l.length : Int)) = (N : Int) := by split <;> omega
  have hnl : N ≤ l.length := by omega
  have hn2 : N ≤ 60 := by omega
  have hlc := hl0.le
  have hcap := hl0.cap
  have hnc : N ≤ c0 := by omega
  obtain ⟨L, hLL⟩ : ∃ L, l.take N = L := ⟨_, rfl⟩
  rw [hLL] at hL hln
  have HLN := Lib.hid hln
  clear hN hln hLL hl0
  obtain ⟨N2, hN2⟩ : ∃ N2, min l9.length 60 = N2 := ⟨_, rfl⟩
  have hL2 := hl9.cut N2
  have hln2 : (l9.take N2).length = N2 := by rw [List.length_take]; omega
  have hmn2 : (if (60 : Int) < (l9.length : Int) then 60 else (l9.length : Int)) = (N2 : Int) := by split <;> omega
  have hnl2 : N2 ≤ l9.length := by omega
  have hn22 : N2 ≤ 60 := by omega
  have hlc2 := hl9.le
  have hcap2 := hl9.cap
  have hnc2 : N2 ≤ c9 := by omega
  obtain ⟨L2, hLL2⟩ : ∃ L2, l9.take N2 = L2 := ⟨_, rfl⟩
  rw [hLL2] at hL2 hln2
  have HLN2 := Lib.hid hln2
  clear hN2 hln2 hLL2 hl9
  go_enter Try.func9, Try.ntmps9
  go_wp2_with fail
  refine hf.mono ?_
  rintro e w2 ⟨rfl, hE2⟩
  have hb2 := hE2.blk hbn
  have d0 := cell_of_row w2 w.heap.size 0 _ _ _ hb2
  have d1 := cell_of_row w2 w.heap.size 1 _ _ _ hb2
  have d2 := cell_of_row w2 w.heap.size 2 _ _ _ hb2
  have d3 := cell_of_row w2 w.heap.size 3 _ _ _ hb2
  simp only [List.getElem?_toArray, List.getElem?_cons_zero, List.getElem?_cons_succ] at d0 d1 d2 d3
  have hE12 := hE1.trans hE2
  have hm := made_any b (hx.ext hE12) hl
  clear hf hbn hb2 hE1 hE2
  go_wp2_with fail
  refine hm.mono ?_
  rintro e w3 ⟨v, u, rfl, hmd, hE3⟩
  have hE13 := hE12.trans hE3
  have hBs := hE12.size
  have hBs3 := hE3.size
  clear hm d0 d1 d2 d3 hE12
  rcases hmd with ⟨_, rfl, rfl⟩ | ⟨_, m, r, rfl, rfl, hBo⟩
  · go_wp2
    go_ret
    exact ⟨rfl, hE13⟩
  · have hP := hBo.p
    have hP0 := hP
    clear hBo hE3
    have HE := Lib.hid hE13
    go_wp2
    go_loopw [10] (fun i wr => ∃ (k : Nat) (m' : Pm), k ≤ N ∧ i = .int .i64 k ∧ PoolS w2.heap.size k wr m' (didL b.s (L.take k)) ∧ Moved m m' w3 wr) (fun i _ => N - (intOf i).toNat)
    case atStart => exact ⟨0, m, by omega, rfl, hP, Moved.refl _ _⟩
    case round =>
      obtain ⟨k, m', hk, rfl, hPk, hMk⟩ := hrel
      have hEk := hMk.toExt hP hE13 hBs
      have hws := hMk.x.size
      by_cases hkN : k < N
      · have hki : (k : Int) < (N : Int) := by omega
        obtain ⟨o, ho⟩ : ∃ o, L[k]? = some o := ⟨_, List.getElem?_eq_getElem (by rw [HLN.out]; exact hkN)⟩
        obtain ⟨bb, off, rfl, _, hcl⟩ := (hL.ext hEk).rd (by rw [HLN.out]; omega)
        obtain ⟨z0, z1, z2⟩ := hcl k o ho
        have hkc : k < c0 := by omega
        have hc := acted_any hPk (by omega) (by omega) o.k o.n o.t
        rw [← didL_step _ ho, hMk.p] at hc
        clear hcl
        go_wp2_with fail
        refine hc.mono ?_
        rintro e w5 ⟨m2, rfl, h2, mv2⟩
        have hM2 := hMk.trans mv2
        clear hc z0 z1 z2 hPk hMk mv2 hEk
        go_wp2
        go_roundw
        case rel => exact ⟨k + 1, m2, by omega, by go_num, h2, hM2⟩
        case measure => simp [intOf]; omega
      · obtain rfl : k = N := by omega
        obtain ⟨s, hs⟩ : ∃ s, didL b.s (L.take k) = s := ⟨_, rfl⟩
        rw [hs] at hPk
        clear hs hkN
        have hM6 := hMk
        have q1 := settle_any hPk (by omega) (by omega)
        rw [hMk.p] at q1
        go_wp2_with fail
        refine q1.mono ?_
        rintro e w5 ⟨m5, rfl, hP5, mv5⟩
        have hM5 := hM6.trans mv5
        have hE5 := mv5.toExt hPk hEk hBs
        have hok5 := hP5.ok
        have hS0 : Sim s.settleS (loadS s.settleS.refs s.settleS.cnt) := ⟨rfl, rfl, rfl⟩
        obtain ⟨s5, hs5⟩ : ∃ s5, s.settleS = s5 := ⟨_, rfl⟩
        rw [hs5] at hP5 hok5 hS0
        have hl5 := hok5.len
        have hz5 := hE5.size
        have hz55 := mv5.x.size
        have q2 := refs_pool hP5
        rw [hM5.p] at q2
        clear q1 hs5 hPk hMk hM6
        go_wp2_with fail
        refine q2.mono ?_
        rintro e w6 ⟨rfl, rfl⟩
        have q3 := counts_any hP5
        rw [hM5.p] at q3
        clear q2
        go_wp2_with fail
        refine q3.mono ?_
        rintro e w6 ⟨A1, c1, rfl, hR1, hE6⟩
        have hP6 := hP5.ext hE6
        have hN1 := hR1.nlc hok5
        have hle := load_fine hok5
        have q4 := load_pool s5.refs hN1 (fun e => by
          obtain ⟨_, _, e2, _⟩ := hN1.rd (by omega)
          rw [e] at e2
          cases e2) (by omega)
        rw [hle] at q4
        clear q3 hR1 hle hN1
        go_wp2_with fail
        refine q4.mono ?_
        rintro e w7 ⟨v, rfl, hE7, hv⟩
        obtain ⟨k0, rfl, hQ7⟩ : ∃ m', v = .pointer (some ⟨Pm.p m', 0, none⟩) ∧ PoolS w6.heap.size 0 w7 m' (loadS s5.refs s5.cnt) := by
          rcases hv with ⟨h, _⟩ | ⟨_, h⟩
          · first | exact (h trivial).elim | exact absurd rfl h
          · exact h
        clear q4 hv
        have hz6 := hE6.size
        have hz7 := hE7.size
        have hPP : PP w w2.heap.size k w7 m k0 m5 k0 s5 (loadS s5.refs s5.cnt) := ⟨hP6.ext hE7, (hQ7.low (by omega)).mono (by omega), fun q hq hk => by
          have h1 := (hP6.foot_lt hq).2
          have h2 := (hQ7.foot_lt hk).1
          omega, hM5.p, rfl, hE5.trans (hE6.trans hE7), hBs, by omega⟩
        obtain ⟨r5, hr5⟩ : ∃ r5, loadS s5.refs s5.cnt = r5 := ⟨_, rfl⟩
        rw [hr5] at hPP hS0
        have hBlo : w.heap.size ≤ w2.heap.size := hBs
        clear hr5 hQ7 hP6 hP5 hE7 hE6 hE5 hM5 mv5 hEk hP hws hz5 hz55 hz6 hz7 hl5 hok5
        go_wp2
        go_loopw [13] (fun i wr => ∃ (j : Nat) (m' k' : Pm) (s r : Pl), j ≤ N2 ∧ i = .int .i64 j ∧ PP w w2.heap.size (k + 2 * j) wr m k0 m' k' s r ∧ Sim s r) (fun i _ => N2 - (intOf i).toNat)
        case atStart => exact ⟨0, m5, k0, s5, r5, by omega, rfl, hPP, hS0⟩
        case round =>
          clear hPP hS0
          obtain ⟨j, m', k', s6, r6, hj, rfl, hPP, hS⟩ := hrel
          by_cases hjN : j < N2
          · have hji : (j : Int) < (N2 : Int) := by omega
            obtain ⟨o, ho⟩ : ∃ o, L2[j]? = some o := ⟨_, List.getElem?_eq_getElem (by rw [HLN2.out]; exact hjN)⟩
            obtain ⟨b9, off, rfl, _, hcl⟩ := (hL2.ext hPP.ex).rd (by rw [HLN2.out]; omega)
            have hb9 : b9 < w.heap.size := by
              obtain ⟨b9', off', e, h, _⟩ := hL2.rd (by rw [HLN2.out]; omega)
              injection e with e
              injection e with e
              omega
            obtain ⟨z0, z1, z2⟩ := hcl j o ho
            have hjc : j < c9 := by omega
            clear hcl
            by_cases g8 : o.k = 8
            · have b8 : (o.k == 8) = true := by simpa using g8
              have hP8 : PP w w2.heap.size (k + 2 * (j + 1)) wr m k0 m' k' s6 r6 := hPP.mono (by omega)
              clear g8
              go_wp2
              go_roundw
              case rel => exact ⟨j + 1, m', k', s6, r6, by omega, by go_num, hP8, hS⟩
              case measure => simp [intOf]; omega
            have b8 : (o.k == 8) = false := by simpa using g8
            by_cases g9 : o.k = 9
            · have b9 : (o.k == 9) = true := by simpa using g9
              have hP8 : PP w w2.heap.size (k + 2 * (j + 1)) wr m k0 m' k' s6 r6 := hPP.mono (by omega)
              clear g8 g9
              go_wp2
              go_roundw
              case rel => exact ⟨j + 1, m', k', s6, r6, by omega, by go_num, hP8, hS⟩
              case measure => simp [intOf]; omega
            have b9' : (o.k == 9) = false := by simpa using g9
            by_cases g12 : 12 ≤ o.k
            · have hP8 : PP w w2.heap.size (k + 2 * (j + 1)) wr m k0 m' k' s6 r6 := hPP.mono (by omega)
              clear g8 g9
              go_wp2
              go_roundw
              case rel => exact ⟨j + 1, m', k', s6, r6, by omega, by go_num, hP8, hS⟩
              case measure => simp [intOf]; omega
            by_cases g0 : o.k < 0
            · have hP8 : PP w w2.heap.size (k + 2 * (j + 1)) wr m k0 m' k' s6 r6 := hPP.mono (by omega)
              clear g8 g9
              go_wp2
              go_roundw
              case rel => exact ⟨j + 1, m', k', s6, r6, by omega, by go_num, hP8, hS⟩
              case measure => simp [intOf]; omega
            obtain ⟨ha, hS2⟩ := hS.ask ⟨by omega, by omega, g8, g9⟩ o.n o.t
            have hal := (ans_bd hPP.p.ok o.k o.n o.t []).1
            obtain ⟨a, haa⟩ : ∃ a, s6.askA o.k o.n o.t [] = a := ⟨_, rfl⟩
            obtain ⟨s7, hs7⟩ : ∃ s7, s6.askS o.k o.n [] = s7 := ⟨_, rfl⟩
            obtain ⟨r7, hr7⟩ : ∃ r7, r6.askS o.k o.n [] = r7 := ⟨_, rfl⟩
            rw [haa] at ha hal
            rw [hs7, hr7] at hS2
            have HAA := Lib.hid haa
            have HA := Lib.hid ha
            have HS7 := Lib.hid hs7
            have HR7 := Lib.hid hr7
            clear g8 g9 ha haa hs7 hr7
            go_wp2
            refine wp_region_rg (Exc (fun q _ => w2.heap.size ≤ q)) (rel_exc _) (fun V => PP w w2.heap.size (k + 2 * j) V m k0 m' k' s6 r6) [0, 1, 2, 3, 4, 6, 7, 8, 9, 10, 5, 11, 12, 13] (fun _ => none) (fun i => match i with
              | 5 => some fun _ z V => PA1 w w2.heap.size (k + 2 * j + 1) m k0 s7 r6 a z V
              | 11 => some fun U z V => PA2 w w2.heap.size (k + 2 * j + 1 + 1) m k0 s7 r7 a (U 5) z V
              | 12 => some fun _ z V => PA3 w w2.heap.size (k + 2 * j + 1 + 1) m k0 s7 r7 z V
              | _ => none) (fun _ => false) (by kernel_rfl) (by kernel_rfl) (fun _ _ h he => h.ext he) (hPP.ext (Below.refl _ _).drew) (fun W N hW hF0 hN => ?_)
            have hEW : Exc (fun q _ => w2.heap.size ≤ q) W W := exc_refl _ _
            have c0 : ∀ w', Exc (fun q _ => w2.heap.size ≤ q) W w' → w'.cell? ⟨b9, off + j * 3, none⟩ = some (.int .i64 o.k) := fun w' hh => cell_exc hh (hW.cell z0) (fun _ e => by omega)
            have c1 : ∀ w', Exc (fun q _ => w2.heap.size ≤ q) W w' → w'.cell? ⟨b9, off + j * 3 + 1, none⟩ = some (.int .i64 o.n) := fun w' hh => cell_exc hh (hW.cell z1) (fun _ e => by omega)
            have c2 : ∀ w', Exc (fun q _ => w2.heap.size ≤ q) W w' → w'.cell? ⟨b9, off + j * 3 + 2, none⟩ = some (.int .i64 o.t) := fun w' hh => cell_exc hh (hW.cell z2) (fun _ e => by omega)
            repeat (first | (apply wpR_one; (case ho => (simp only [List.getElem?_toArray, List.getElem?_cons_succ, List.getElem?_cons_zero]; try exact rfl)); (case hw => rfl); (case hl => rfl); (case hsp => rfl); (case he => rfl); (case hv => (intro w' hw'; (try (have hw2 := Ext.trans hEW hw')); (try (have hw3 := Exc.trans hEW hw')); (try (have hw4 := Exk.trans hEW hw')); (try (have hw5 := Mrk.trans hEW hw')); go_simp; exact rfl)); (case hw0 => (first | exact Below.refl _ _ | exact Exc.of_ext (Below.refl _ _) | exact Exk.of_ext (Below.refl _ _) | exact Mrk.of_ext (Below.refl _ _))); simp only [Act.put, List.setIfInBounds_toArray, List.set_cons_succ, List.set_cons_zero]) | (apply wpR_early; (case ho => (simp only [List.getElem?_toArray, List.getElem?_cons_succ, List.getElem?_cons_zero]; try exact rfl)); (case hw => rfl); (case hl => rfl); (case hsp => rfl); (case he => rfl); (case hv => (intro w' hw'; (try have hw2 := Ext.trans hEW hw'); go_simp; exact rfl)); simp only [Act.put, List.setIfInBounds_toArray, List.set_cons_succ, List.set_cons_zero]) | (apply wpR_pass; (case ho => (simp only [List.getElem?_toArray, List.getElem?_cons_succ, List.getElem?_cons_zero]; try exact rfl)); (case hw => rfl); (case hl => rfl); simp only [Act.put, List.setIfInBounds_toArray, List.set_cons_succ, List.set_cons_zero]))
            refine wpR_late (by ((simp only [List.getElem?_toArray, List.getElem?_cons_succ, List.getElem?_cons_zero]; try exact rfl))) _ rfl rfl (fun V v => PA1.lasts _ _ _ _ _ _ _ _ _) (fun V V' h => rfl) (fun w' hw' hK hF => ?_) (fun y5 hy5 => ?_)
            · have hF2 : PP w w2.heap.size (k + 2 * j) w' m k0 m' k' s6 r6 := hF
              have hc := pair1 hF2 (by omega) o (nl_nil w') (by simp)
              rw [HAA.out, HS7.out] at hc
              clear c0 c1 c2 z0 z1 z2
              unfold opAt; go_simp; refine upAt_enter ?_
              refine hc.mono ?_
              rintro e w8 ⟨z, rfl, h1, h2⟩
              exact ⟨_, rfl, h1, h2⟩
            clear hy5
            simp only [Act.put, List.setIfInBounds_toArray, List.set_cons_succ, List.set_cons_zero]
            repeat (first | (apply wpR_one; (case ho => (simp only [List.getElem?_toArray, List.getElem?_cons_succ, List.getElem?_cons_zero]; try exact rfl)); (case hw => rfl); (case hl => rfl); (case hsp => rfl); (case he => rfl); (case hv => (intro w' hw'; (try (have hw2 := Ext.trans hEW hw')); (try (have hw3 := Exc.trans hEW hw')); (try (have hw4 := Exk.trans hEW hw')); (try (have hw5 := Mrk.trans hEW hw')); go_simp; exact rfl)); (case hw0 => (first | exact Below.refl _ _ | exact Exc.of_ext (Below.refl _ _) | exact Exk.of_ext (Below.refl _ _) | exact Mrk.of_ext (Below.refl _ _))); simp only [Act.put, List.setIfInBounds_toArray, List.set_cons_succ, List.set_cons_zero]) | (apply wpR_early; (case ho => (simp only [List.getElem?_toArray, List.getElem?_cons_succ, List.getElem?_cons_zero]; try exact rfl)); (case hw => rfl); (case hl => rfl); (case hsp => rfl); (case he => rfl); (case hv => (intro w' hw'; (try have hw2 := Ext.trans hEW hw'); go_simp; exact rfl)); simp only [Act.put, List.setIfInBounds_toArray, List.set_cons_succ, List.set_cons_zero]) | (apply wpR_pass; (case ho => (simp only [List.getElem?_toArray, List.getElem?_cons_succ, List.getElem?_cons_zero]; try exact rfl)); (case hw => rfl); (case hl => rfl); simp only [Act.put, List.setIfInBounds_toArray, List.set_cons_succ, List.set_cons_zero]))
            refine wpR_late (by ((simp only [List.getElem?_toArray, List.getElem?_cons_succ, List.getElem?_cons_zero]; try exact rfl))) _ rfl rfl (fun V v => PA2.lasts _ _ _ _ _ _ _ _ _ _) (fun V V' h => by have := h 5 (by kernel_rfl); simp only [this]) (fun w' hw' hK hF => ?_) (fun y11 hy11 => ?_)
            · have hF2 : PA1 w w2.heap.size (k + 2 * j + 1) m k0 s7 r6 a y5 w' := hF
              have hc := pair2 hF2 (by omega) o (nl_nil w') (by simp) HA.out
              rw [HR7.out] at hc
              clear c0 c1 c2 z0 z1 z2
              unfold opAt; go_simp; refine upAt_enter ?_
              refine hc.mono ?_
              rintro e w8 ⟨z, rfl, h1, h2⟩
              exact ⟨_, rfl, h1, h2⟩
            clear hy11
            simp only [Act.put, List.setIfInBounds_toArray, List.set_cons_succ, List.set_cons_zero]
            repeat (first | (apply wpR_one; (case ho => (simp only [List.getElem?_toArray, List.getElem?_cons_succ, List.getElem?_cons_zero]; try exact rfl)); (case hw => rfl); (case hl => rfl); (case hsp => rfl); (case he => rfl); (case hv => (intro w' hw'; (try (have hw2 := Ext.trans hEW hw')); (try (have hw3 := Exc.trans hEW hw')); (try (have hw4 := Exk.trans hEW hw')); (try (have hw5 := Mrk.trans hEW hw')); go_simp; exact rfl)); (case hw0 => (first | exact Below.refl _ _ | exact Exc.of_ext (Below.refl _ _) | exact Exk.of_ext (Below.refl _ _) | exact Mrk.of_ext (Below.refl _ _))); simp only [Act.put, List.setIfInBounds_toArray, List.set_cons_succ, List.set_cons_zero]) | (apply wpR_early; (case ho => (simp only [List.getElem?_toArray, List.getElem?_cons_succ, List.getElem?_cons_zero]; try exact rfl)); (case hw => rfl); (case hl => rfl); (case hsp => rfl); (case he => rfl); (case hv => (intro w' hw'; (try have hw2 := Ext.trans hEW hw'); go_simp; exact rfl)); simp only [Act.put, List.setIfInBounds_toArray, List.set_cons_succ, List.set_cons_zero]) | (apply wpR_pass; (case ho => (simp only [List.getElem?_toArray, List.getElem?_cons_succ, List.getElem?_cons_zero]; try exact rfl)); (case hw => rfl); (case hl => rfl); simp only [Act.put, List.setIfInBounds_toArray, List.set_cons_succ, List.set_cons_zero]))
            refine wpR_late (by ((simp only [List.getElem?_toArray, List.getElem?_cons_succ, List.getElem?_cons_zero]; try exact rfl))) _ rfl rfl (fun V v => PA3.lasts _ _ _ _ _ _ _ _) (fun V V' h => rfl) (fun w' hw' hK hF => ?_) (fun y12 hy12 => ?_)
            · have hF2 : PA2 w w2.heap.size (k + 2 * j + 1 + 1) m k0 s7 r7 a y5 y11 w' := hF
              have hc := pair3 hF2 hal
              clear c0 c1 c2 z0 z1 z2
              unfold opAt; go_simp; refine upAt_enter ?_
              refine hc.mono ?_
              rintro e w8 ⟨z, rfl, h1, h2⟩
              exact ⟨_, rfl, h1, h2⟩
            obtain ⟨_, _, rfl, _⟩ := hy12
            simp only [Act.put, List.setIfInBounds_toArray, List.set_cons_succ, List.set_cons_zero]
            repeat (first | (apply wpR_one; (case ho => (simp only [List.getElem?_toArray, List.getElem?_cons_succ, List.getElem?_cons_zero]; try exact rfl)); (case hw => rfl); (case hl => rfl); (case hsp => rfl); (case he => rfl); (case hv => (intro w' hw'; (try (have hw2 := Ext.trans hEW hw')); (try (have hw3 := Exc.trans hEW hw')); (try (have hw4 := Exk.trans hEW hw')); (try (have hw5 := Mrk.trans hEW hw')); go_simp; exact rfl)); (case hw0 => (first | exact Below.refl _ _ | exact Exc.of_ext (Below.refl _ _) | exact Exk.of_ext (Below.refl _ _) | exact Mrk.of_ext (Below.refl _ _))); simp only [Act.put, List.setIfInBounds_toArray, List.set_cons_succ, List.set_cons_zero]) | (apply wpR_early; (case ho => (simp only [List.getElem?_toArray, List.getElem?_cons_succ, List.getElem?_cons_zero]; try exact rfl)); (case hw => rfl); (case hl => rfl); (case hsp => rfl); (case he => rfl); (case hv => (intro w' hw'; (try have hw2 := Ext.trans hEW hw'); go_simp; exact rfl)); simp only [Act.put, List.setIfInBounds_toArray, List.set_cons_succ, List.set_cons_zero]) | (apply wpR_pass; (case ho => (simp only [List.getElem?_toArray, List.getElem?_cons_succ, List.getElem?_cons_zero]; try exact rfl)); (case hw => rfl); (case hl => rfl); simp only [Act.put, List.setIfInBounds_toArray, List.set_cons_succ, List.set_cons_zero]))
            apply wpR_nil
            apply hN
            intro w8 hE8 hK hF
            obtain ⟨_, m8, k8, h8⟩ : PA3 w w2.heap.size (k + 2 * j + 1 + 1) m k0 s7 r7 (.bool true) w8 := hF
            have h9 : PP w w2.heap.size (k + 2 * (j + 1)) w8 m k0 m8 k8 s7 r7 := h8.mono (by omega)
            clear hK hN hW hE8 hEW hF0 c0 c1 c2 z0 z1 z2 hPP h8
            go_wp2
            go_roundw
            case rel => exact ⟨j + 1, m8, k8, s7, r7, by omega, by go_num, h9, hS2⟩
            case measure => simp [intOf]; omega
          · obtain rfl : j = N2 := by omega
            have hok := hPP.p.ok
            have hl6 := hok.len
            have q1 := counts_any hPP.p
            rw [hPP.mp] at q1
            go_wp2_with fail
            refine q1.mono ?_
            rintro e w8 ⟨A1, c1, rfl, hR1, hE8⟩
            have hP8 := hPP.ext hE8
            have q2 := counts_any hP8.q
            rw [hP8.kp, ← hS.cnt] at q2
            clear q1
            go_wp2_with fail
            refine q2.mono ?_
            rintro e w9 ⟨A2, c2, rfl, hR2, hE9⟩
            have hP9 := hP8.ext hE9
            have hq := eqi_any (RowI.nlc (own_ext hR1 hE9 : RowI _ _ _ _ _) hok) (RowI.nlc hR2 hok) (by omega) (by omega)
            rw [decide_eq_true rfl] at hq
            clear q2 hR1 hR2 hP8
            go_wp2_with fail
            refine hq.mono ?_
            rintro e w10 ⟨rfl, hE10⟩
            have hP10 := hP9.ext hE10
            have q3 := walked_any hP10.p 2 (-1)
            rw [stopL_neg, hP10.mp] at q3
            have hpb := (pages_bd hok 2).1
            clear hq hP9
            go_wp2_with fail
            refine q3.mono ?_
            rintro e w11 ⟨A3, c3, rfl, hR3, hE11⟩
            have hP11 := hP10.ext hE11
            have q4 := walked_any hP11.q 2 (-1)
            rw [stopL_neg, hP11.kp, hS.pages] at q4
            clear q3
            go_wp2_with fail
            refine q4.mono ?_
            rintro e w12 ⟨A4, c4, rfl, hR4, hE12⟩
            have hq := eqi_any (RowI.nlp (own_ext hR3 hE12 : RowI _ _ _ _ _) hok) (RowI.nlp hR4 hok) (by omega) (by omega)
            rw [decide_eq_true rfl] at hq
            have hE13 := (hP11.ext hE12).ex
            clear q4 hR3 hR4
            go_wp2_with fail
            refine hq.mono ?_
            rintro e w13 ⟨rfl, hE14⟩
            go_wp2
            go_ret
            exact ⟨rfl, hE13.trans hE14⟩
end Go.Proofs.Ytaalhicdeibodaa
