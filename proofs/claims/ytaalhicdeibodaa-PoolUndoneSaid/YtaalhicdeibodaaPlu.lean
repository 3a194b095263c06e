/- Layer 10: the walk of PoolUndone. No condition but the sizes. -/
import Derived.Test.YtaalhicdeibodaaPls
namespace Go.Proofs.Ytaalhicdeibodaa
open Go.RowKit Go.Proofs Go.Shelf
set_option linter.unusedVariables false
/-- A pool on which acts were called behind a mark. -/
structure Since (s0 s : Pl) : Prop where
  refs : s.refs = s0.refs
  last : s.last = s0.last
  floor : s.floor = s0.floor
  acts : ∃ t, s.acts = s0.acts ++ t ∧ backC s.cnt t = s0.cnt
theorem Since.refl (s : Pl) : Since s s := ⟨rfl, rfl, rfl, [], by simp, rfl⟩
theorem Since.act {s0 s : Pl} (h : Since s0 s) {n b : Int} (h1 : 1 ≤ n) (h2 : n ≤ s.cnt.length) : Since s0 (s.act n b) := by
  obtain ⟨t, ht, hb⟩ := h.acts
  refine ⟨h.refs, h.last, h.floor, t ++ [(n, b)], ?_, ?_⟩
  · show s.acts ++ [(n, b)] = _
    rw [ht, List.append_assoc]
  · show backC (bump s.cnt n b) _ = _
    rw [backC_snoc, bump_back _ h1 h2, hb]
theorem Since.did {s0 s : Pl} {N : Nat} (h : Since s0 s) (hok : s.Ok N) {k n : Int} (hk : k ≠ 10) : Since s0 (s.did k n) := by
  by_cases k0 : k = 0
  · subst k0
    show Since s0 s.allocS
    unfold Pl.allocS
    by_cases hl : lowF s.sts = 0
    · rw [if_pos hl]; exact h
    · rw [if_neg hl]
      have := hok.low hl
      exact h.act this.1.1 this.1.2
  by_cases k1 : k = 1
  · subst k1
    show Since s0 (s.incS n)
    unfold Pl.incS
    by_cases hl : s.incE n = 0
    · rw [if_pos hl]
      have h0 : cntAt s.cnt n ≠ 0 := fun e => by
        unfold Pl.incE at hl
        rw [if_pos e] at hl
        cases hl
      obtain ⟨a, b, _⟩ := cntAt_in h0
      exact h.act a b
    · rw [if_neg hl]; exact h
  by_cases k2 : k = 2
  · subst k2
    show Since s0 (s.decS n)
    unfold Pl.decS
    by_cases hl : cntAt s.cnt n = 0
    · rw [if_pos hl]; exact h
    · rw [if_neg hl]
      obtain ⟨a, b, _⟩ := cntAt_in hl
      exact h.act a b
  have : s.did k n = s := by unfold Pl.did; rw [if_neg k0, if_neg k1, if_neg k2, if_neg hk]
  rw [this]
  exact h
theorem Since.undo {s0 s : Pl} {N : Nat} (h : Since s0 s) (hok : s0.Ok N) : s.undoB s0.acts.length = true ∧ s.undoS s0.acts.length = s0 := by
  obtain ⟨t, ht, hb⟩ := h.acts
  have hfl := hok.floor
  have h1 : s.undoB s0.acts.length = true := by
    unfold Pl.undoB
    rw [h.floor, ht]
    refine decide_eq_true ⟨by omega, ?_⟩
    rw [List.length_append]
    omega
  refine ⟨h1, ?_⟩
  unfold Pl.undoS
  rw [if_pos h1, Int.toNat_natCast, ht, List.drop_append_of_le_length (Nat.le_refl _), List.drop_length, List.nil_append, hb, List.take_append_of_le_length (Nat.le_refl _), List.take_length]
  obtain ⟨refs, cnt, last, acts, fl⟩ := s
  obtain ⟨refs', cnt', last', acts', fl'⟩ := s0
  obtain ⟨e1, e2, e3, _⟩ := h
  dsimp only at e1 e2 e3 ⊢
  subst e1 e2 e3
  rfl
set_option maxRecDepth 100000 in
set_option maxHeartbeats 4000000 in
theorem pundone_any {w : World} {v : Value} {b : Bgn} {A0 : Option Addr} {c0 : Nat} {l : List Opp} {A8 : Option Addr} {c8 : Nat} {l8 : List Opp} {A9 : Option Addr} {c9 : Nat} {l9 : List Opp} (hb : BgV w v b) (hl0 : OPP w A0 c0 l) (hl8 : OPP w A8 c8 l8) (hl9 : OPP w A9 c9 l9) :
    Calls Try.prog 8 #[v, .slice A0 l.length c0, .slice A8 l8.length c8, .slice A9 l9.length c9] w fun e w' => e = .returned (.bool true) ∧ Ext w w' := by
  obtain ⟨⟨A, c, rfl, hx, hl⟩⟩ := hb
  have hE1 := ext_alloc w (Obj.cells #[.bool b.ld, .int .i64 b.pages, .int .i64 b.refs, .slice A b.cs.length c] 24)
  have hbn := heap_alloc_new w (Obj.cells #[.bool b.ld, .int .i64 b.pages, .int .i64 b.refs, .slice A b.cs.length c] 24)
  have hf := fixed_any (w := w.alloc (Obj.cells #[.bool b.ld, .int .i64 b.pages, .int .i64 b.refs, .slice A b.cs.length c] 24))
  obtain ⟨N, hN⟩ : ∃ N, min l.length 60 = N := ⟨_, rfl⟩
  have hL := hl0.cut N
  have hln : (l.take N).length = N := by rw [List.length_take]; omega
  have hmn : (if (60 : Int) < (l.length : Int) then 60 else (l.length : Int)) = (N : Int) := by split <;> omega
  have hnl : N ≤ l.length := by omega
  have hn2 : N ≤ 60 := by omega
  have hlc := hl0.le
  have hcap := hl0.cap
  have hnc : N ≤ c0 := by omega
  obtain ⟨L, hLL⟩ : ∃ L, l.take N = L := ⟨_, rfl⟩
  rw [hLL] at hL hln
  have HLN := Lib.hid hln
  clear hN hln hLL hl0
  obtain ⟨N8, hN8⟩ : ∃ N8, min l8.length 60 = N8 := ⟨_, rfl⟩
  have hL8 := hl8.cut N8
  have hln8 : (l8.take N8).length = N8 := by rw [List.length_take]; omega
  have hmn8 : (if (60 : Int) < (l8.length : Int) then 60 else (l8.length : Int)) = (N8 : Int) := by split <;> omega
  have hnl8 : N8 ≤ l8.length := by omega
  have hn28 : N8 ≤ 60 := by omega
  have hlc8 := hl8.le
  have hcap8 := hl8.cap
  have hnc8 : N8 ≤ c8 := by omega
  obtain ⟨L8, hLL8⟩ : ∃ L8, l8.take N8 = L8 := ⟨_, rfl⟩
  rw [hLL8] at hL8 hln8
  have HLN8 := Lib.hid hln8
  clear hN8 hln8 hLL8 hl8
  obtain ⟨N2, hN2⟩ : ∃ N2, min l9.length 60 = N2 := ⟨_, rfl⟩
  have hL2 := hl9.cut N2
  have hln2 : (l9.take N2).length = N2 := by rw [List.length_take]; omega
  have hmn2 : (if (60 : Int) < (l9.length : Int) then 60 else (l9.length : Int)) = (N2 : Int) := by split <;> omega
  have hnl2 : N2 ≤ l9.length := by omega
  have hn22 : N2 ≤ 60 := by omega
  have hlc2 := hl9.le
  have hcap2 := hl9.cap
  have hnc2 : N2 ≤ c9 := by omega
  obtain ⟨L2, hLL2⟩ : ∃ L2, l9.take N2 = L2 := ⟨_, rfl⟩
  rw [hLL2] at hL2 hln2
  have HLN2 := Lib.hid hln2
  clear hN2 hln2 hLL2 hl9
  go_enter Try.func8, Try.ntmps8
  go_wp2_with fail
  refine hf.mono ?_
  rintro e w2 ⟨rfl, hE2⟩
  have hb2 := hE2.blk hbn
  have d0 := cell_of_row w2 w.heap.size 0 _ _ _ hb2
  have d1 := cell_of_row w2 w.heap.size 1 _ _ _ hb2
  have d2 := cell_of_row w2 w.heap.size 2 _ _ _ hb2
  have d3 := cell_of_row w2 w.heap.size 3 _ _ _ hb2
  simp only [List.getElem?_toArray, List.getElem?_cons_zero, List.getElem?_cons_succ] at d0 d1 d2 d3
  have hE12 := hE1.trans hE2
  have hm := made_any b (hx.ext hE12) hl
  clear hf hbn hE1 hE2
  go_wp2_with fail
  refine hm.mono ?_
  rintro e w3 ⟨v, u, rfl, hmd, hE3⟩
  have hE13 := hE12.trans hE3
  have hBs := hE12.size
  have hBs3 := hE3.size
  have hm' := made_any b (hx.ext hE13) hl
  have hb3 := hE3.blk hb2
  have d0 := cell_of_row w3 w.heap.size 0 _ _ _ hb3
  have d1 := cell_of_row w3 w.heap.size 1 _ _ _ hb3
  have d2 := cell_of_row w3 w.heap.size 2 _ _ _ hb3
  have d3 := cell_of_row w3 w.heap.size 3 _ _ _ hb3
  simp only [List.getElem?_toArray, List.getElem?_cons_zero, List.getElem?_cons_succ] at d0 d1 d2 d3
  clear hm hE12 hb3
  go_wp2_with fail
  refine hm'.mono ?_
  rintro e w4 ⟨v', u', rfl, hmd', hE4⟩
  have hE14 := hE13.trans hE4
  have hBs4 := hE4.size
  clear hm' d0 d1 d2 d3 hb2
  rcases hmd with ⟨_, rfl, rfl⟩ | ⟨hz0, m, r, rfl, rfl, hBo⟩
  · rcases hmd' with ⟨_, rfl, rfl⟩ | ⟨hz0, _⟩
    · go_wp2
      go_ret
      exact ⟨rfl, hE14⟩
    · exact absurd hz0 (by assumption)
  · rcases hmd' with ⟨hz1, _⟩ | ⟨_, k0, r', rfl, rfl, hBo'⟩
    · exact absurd hz0 hz1
    clear hz0
    have hP := hBo.p.ext hE4
    have hQ := hBo'.p
    have hf1 := fun q (hq : m.foot q) => (hBo.p.foot_lt hq).2
    have hf2 := fun q (hq : k0.foot q) => (hQ.foot_lt hq).1
    have hPP : PP w w2.heap.size 0 w4 m k0 m k0 b.s b.s := ⟨hP, hQ.low hBs3, fun q hq hk => by
      have h1 := hf1 q hq
      have h2 := hf2 q hk
      omega, rfl, rfl, hE14, hBs, by omega⟩
    clear hBo hBo' hE3 hE4 hE13 hE14 hP hQ hf1 hf2 hBs3 hBs4
    have hBlo : w.heap.size ≤ w2.heap.size := hBs
    obtain ⟨sb, hsb⟩ : ∃ s, b.s = s := ⟨_, rfl⟩
    rw [hsb] at hPP
    clear hsb
    go_wp2
    go_loopw [15] (fun i wr => ∃ (k : Nat) (m' k' : Pm), k ≤ N ∧ i = .int .i64 k ∧ PP w w2.heap.size (2 * k) wr m k0 m' k' (didL sb (L.take k)) (didL sb (L.take k))) (fun i _ => N - (intOf i).toNat)
    case atStart => exact ⟨0, m, k0, by omega, rfl, hPP⟩
    case round =>
      clear hPP
      obtain ⟨k, m', k', hk, rfl, hPP⟩ := hrel
      by_cases hkN : k < N
      · have hki : (k : Int) < (N : Int) := by omega
        obtain ⟨o, ho⟩ : ∃ o, L[k]? = some o := ⟨_, List.getElem?_eq_getElem (by rw [HLN.out]; exact hkN)⟩
        have hL3 := fun V (hh : Ext w V) => (hL.ext hh).rd (by rw [HLN.out]; omega)
        obtain ⟨bb, off, rfl, _, hcl⟩ := hL3 wr hPP.ex
        obtain ⟨z0, z1, z2⟩ := hcl k o ho
        have hkc : k < c0 := by omega
        have hc := acted_any hPP.p (by omega) hPP.hi o.k o.n o.t
        rw [← didL_step _ ho, hPP.mp] at hc
        clear hcl
        go_wp2_with fail
        refine hc.mono ?_
        rintro e w5 ⟨m2, rfl, h2, mv2⟩
        have hP5 := hPP.left mv2 h2 (Nat.le_succ _)
        obtain ⟨bb', off', e1, _, hcl⟩ := hL3 w5 hP5.ex
        injection e1 with e1
        injection e1 with e1 e2
        subst e1 e2
        obtain ⟨y0, y1, y2⟩ := hcl k o ho
        have hd := acted_any hP5.q (by omega) hP5.hi o.k o.n o.t
        rw [← didL_step _ ho, hP5.kp] at hd
        clear hc z0 z1 z2 hcl hPP
        go_wp2_with fail
        refine hd.mono ?_
        rintro e w6 ⟨k2, rfl, h3, mv3⟩
        have hP6 : PP w w2.heap.size (2 * (k + 1)) w6 m k0 m2 k2 (didL sb (L.take (k + 1))) (didL sb (L.take (k + 1))) := hP5.right mv3 h3 (by omega)
        clear hd y0 y1 y2 hP5 mv2 mv3 h2 h3
        go_wp2
        go_roundw
        case rel => exact ⟨k + 1, m2, k2, by omega, by go_num, hP6⟩
        case measure => simp [intOf]; omega
      · obtain rfl : k = N := by omega
        obtain ⟨s0, hs0⟩ : ∃ s, didL sb (L.take k) = s := ⟨_, rfl⟩
        rw [hs0] at hPP
        have hok0 := hPP.p.ok
        have hac0 := hok0.acts
        have q1 := mark_wide hPP.p (by omega)
        rw [hPP.mp] at q1
        clear hs0 hkN
        go_wp2_with fail
        refine q1.mono ?_
        rintro e w5 ⟨rfl, hE5⟩
        have hP5 := hPP.ext hE5
        clear q1 hE5 hPP
        have hSi := Since.refl s0
        go_wp2
        go_loopw [17] (fun i wr => ∃ (j : Nat) (m' k' : Pm) (s1 : Pl), j ≤ N8 ∧ i = .int .i64 j ∧ PP w w2.heap.size (2 * k + j) wr m k0 m' k' s1 s0 ∧ Since s0 s1) (fun i _ => N8 - (intOf i).toNat)
        case atStart => exact ⟨0, m', k', s0, by omega, rfl, hP5, hSi⟩
        case round =>
          clear hP5 hSi
          obtain ⟨j, m', k', s1, hj, rfl, hPP, hSi⟩ := hrel
          by_cases hjN : j < N8
          · have hji : (j : Int) < (N8 : Int) := by omega
            obtain ⟨o, ho⟩ : ∃ o, L8[j]? = some o := ⟨_, List.getElem?_eq_getElem (by rw [HLN8.out]; exact hjN)⟩
            obtain ⟨b8, off, rfl, _, hcl⟩ := (hL8.ext hPP.ex).rd (by rw [HLN8.out]; omega)
            obtain ⟨z0, z1, z2⟩ := hcl j o ho
            have hjc : j < c8 := by omega
            clear hcl
            by_cases g10 : o.k = 10
            · have b10 : (o.k != 10) = false := by simpa using g10
              have hP8 : PP w w2.heap.size (2 * k + (j + 1)) wr m k0 m' k' s1 s0 := hPP.mono (by omega)
              clear g10
              go_wp2
              go_roundw
              case rel => exact ⟨j + 1, m', k', s1, by omega, by go_num, hP8, hSi⟩
              case measure => simp [intOf]; omega
            · have b10 : (o.k != 10) = true := by simpa using g10
              have hc := acted_any hPP.p (by omega) hPP.hi o.k o.n o.t
              rw [hPP.mp] at hc
              have hS2 : Since s0 (s1.did o.k o.n) := hSi.did hPP.p.ok g10
              obtain ⟨s2, hs2⟩ : ∃ s2, s1.did o.k o.n = s2 := ⟨_, rfl⟩
              rw [hs2] at hc hS2
              clear g10 hs2
              go_wp2_with fail
              refine hc.mono ?_
              rintro e w6 ⟨m2, rfl, h2, mv2⟩
              have hP8 : PP w w2.heap.size (2 * k + (j + 1)) w6 m k0 m2 k' s2 s0 := hPP.left mv2 h2 (by omega)
              clear hc z0 z1 z2 hPP mv2 h2
              go_wp2
              go_roundw
              case rel => exact ⟨j + 1, m2, k', s2, by omega, by go_num, hP8, hS2⟩
              case measure => simp [intOf]; omega
          · obtain rfl : j = N8 := by omega
            obtain ⟨u1, u2⟩ := hSi.undo hok0
            have q1 := undo_any hPP.p (by omega) hPP.hi (s0.acts.length : Int)
            rw [hPP.mp, u1, u2] at q1
            clear u1 u2 hjN hSi
            go_wp2_with fail
            refine q1.mono ?_
            rintro e w6 ⟨m2, rfl, h2, mv2⟩
            have hP6 : PP w w2.heap.size (2 * k + j) w6 m k0 m2 k' s0 s0 := hPP.left mv2 h2 (Nat.le_refl _)
            obtain ⟨n0, hn0⟩ : ∃ n0, 2 * k + j = n0 := ⟨_, rfl⟩
            have hn1 : n0 ≤ 180 := by omega
            rw [hn0] at hP6
            clear q1 hPP mv2 h2 hn0
            go_wp2
            go_loopw [18] (fun i wr => ∃ (j : Nat) (m' k' : Pm) (s : Pl), j ≤ N2 ∧ i = .int .i64 j ∧ PP w w2.heap.size (n0 + 2 * j) wr m k0 m' k' s s) (fun i _ => N2 - (intOf i).toNat)
            case atStart => exact ⟨0, m2, k', s0, by omega, rfl, hP6⟩
            case round =>
              clear hP6
              obtain ⟨j, m', k', s6, hj, rfl, hPP⟩ := hrel
              by_cases hjN : j < N2
              · have hji : (j : Int) < (N2 : Int) := by omega
                obtain ⟨o, ho⟩ : ∃ o, L2[j]? = some o := ⟨_, List.getElem?_eq_getElem (by rw [HLN2.out]; exact hjN)⟩
                obtain ⟨b9, off, rfl, _, hcl⟩ := (hL2.ext hPP.ex).rd (by rw [HLN2.out]; omega)
                have hb9 : b9 < w.heap.size := by
                  obtain ⟨b9', off', e, h, _⟩ := hL2.rd (by rw [HLN2.out]; omega)
                  injection e with e
                  injection e with e
                  omega
                obtain ⟨z0, z1, z2⟩ := hcl j o ho
                have hjc : j < c9 := by omega
                clear hcl
                have hal := (ans_bd hPP.p.ok o.k o.n o.t []).1
                obtain ⟨a, haa⟩ : ∃ a, s6.askA o.k o.n o.t [] = a := ⟨_, rfl⟩
                obtain ⟨s7, hs7⟩ : ∃ s7, s6.askS o.k o.n [] = s7 := ⟨_, rfl⟩
                rw [haa] at hal
                have HAA := Lib.hid haa
                have HS7 := Lib.hid hs7
                clear haa hs7
                go_wp2
                refine wp_region_rg (Exc (fun q _ => w2.heap.size ≤ q)) (rel_exc _) (fun V => PP w w2.heap.size (n0 + 2 * j) V m k0 m' k' s6 s6) [0, 1, 2, 3, 4, 6, 7, 8, 9, 10, 5, 11, 12, 13] (fun _ => none) (fun i => match i with
                  | 5 => some fun _ z V => PA1 w w2.heap.size (n0 + 2 * j + 1) m k0 s7 s6 a z V
                  | 11 => some fun U z V => PA2 w w2.heap.size (n0 + 2 * j + 1 + 1) m k0 s7 s7 a (U 5) z V
                  | 12 => some fun _ z V => PA3 w w2.heap.size (n0 + 2 * j + 1 + 1) m k0 s7 s7 z V
                  | _ => none) (fun _ => false) (by kernel_rfl) (by kernel_rfl) (fun _ _ h he => h.ext he) (hPP.ext (Below.refl _ _).drew) (fun W N hW hF0 hN => ?_)
                have hEW : Exc (fun q _ => w2.heap.size ≤ q) W W := exc_refl _ _
                have c0 : ∀ w', Exc (fun q _ => w2.heap.size ≤ q) W w' → w'.cell? ⟨b9, off + j * 3, none⟩ = some (.int .i64 o.k) := fun w' hh => cell_exc hh (hW.cell z0) (fun _ e => by omega)
                have c1 : ∀ w', Exc (fun q _ => w2.heap.size ≤ q) W w' → w'.cell? ⟨b9, off + j * 3 + 1, none⟩ = some (.int .i64 o.n) := fun w' hh => cell_exc hh (hW.cell z1) (fun _ e => by omega)
                have c2 : ∀ w', Exc (fun q _ => w2.heap.size ≤ q) W w' → w'.cell? ⟨b9, off + j * 3 + 2, none⟩ = some (.int .i64 o.t) := fun w' hh => cell_exc hh (hW.cell z2) (fun _ e => by omega)
                repeat (first | (apply wpR_one; (case ho => (simp only [List.getElem?_toArray, List.getElem?_cons_succ, List.getElem?_cons_zero]; try exact rfl)); (case hw => rfl); (case hl => rfl); (case hsp => rfl); (case he => rfl); (case hv => (intro w' hw'; (try (have hw2 := Ext.trans hEW hw')); (try (have hw3 := Exc.trans hEW hw')); (try (have hw4 := Exk.trans hEW hw')); (try (have hw5 := Mrk.trans hEW hw')); go_simp; exact rfl)); (case hw0 => (first | exact Below.refl _ _ | exact Exc.of_ext (Below.refl _ _) | exact Exk.of_ext (Below.refl _ _) | exact Mrk.of_ext (Below.refl _ _))); simp only [Act.put, List.setIfInBounds_toArray, List.set_cons_succ, List.set_cons_zero]) | (apply wpR_early; (case ho => (simp only [List.getElem?_toArray, List.getElem?_cons_succ, List.getElem?_cons_zero]; try exact rfl)); (case hw => rfl); (case hl => rfl); (case hsp => rfl); (case he => rfl); (case hv => (intro w' hw'; (try have hw2 := Ext.trans hEW hw'); go_simp; exact rfl)); simp only [Act.put, List.setIfInBounds_toArray, List.set_cons_succ, List.set_cons_zero]) | (apply wpR_pass; (case ho => (simp only [List.getElem?_toArray, List.getElem?_cons_succ, List.getElem?_cons_zero]; try exact rfl)); (case hw => rfl); (case hl => rfl); simp only [Act.put, List.setIfInBounds_toArray, List.set_cons_succ, List.set_cons_zero]))
                refine wpR_late (by ((simp only [List.getElem?_toArray, List.getElem?_cons_succ, List.getElem?_cons_zero]; try exact rfl))) _ rfl rfl (fun V v => PA1.lasts _ _ _ _ _ _ _ _ _) (fun V V' h => rfl) (fun w' hw' hK hF => ?_) (fun y5 hy5 => ?_)
                · have hF2 : PP w w2.heap.size (n0 + 2 * j) w' m k0 m' k' s6 s6 := hF
                  have hc := pair1 hF2 (by omega) o (nl_nil w') (by simp)
                  rw [HAA.out, HS7.out] at hc
                  clear c0 c1 c2 z0 z1 z2
                  unfold opAt; go_simp; refine upAt_enter ?_
                  refine hc.mono ?_
                  rintro e w8 ⟨z, rfl, h1, h2⟩
                  exact ⟨_, rfl, h1, h2⟩
                clear hy5
                simp only [Act.put, List.setIfInBounds_toArray, List.set_cons_succ, List.set_cons_zero]
                repeat (first | (apply wpR_one; (case ho => (simp only [List.getElem?_toArray, List.getElem?_cons_succ, List.getElem?_cons_zero]; try exact rfl)); (case hw => rfl); (case hl => rfl); (case hsp => rfl); (case he => rfl); (case hv => (intro w' hw'; (try (have hw2 := Ext.trans hEW hw')); (try (have hw3 := Exc.trans hEW hw')); (try (have hw4 := Exk.trans hEW hw')); (try (have hw5 := Mrk.trans hEW hw')); go_simp; exact rfl)); (case hw0 => (first | exact Below.refl _ _ | exact Exc.of_ext (Below.refl _ _) | exact Exk.of_ext (Below.refl _ _) | exact Mrk.of_ext (Below.refl _ _))); simp only [Act.put, List.setIfInBounds_toArray, List.set_cons_succ, List.set_cons_zero]) | (apply wpR_early; (case ho => (simp only [List.getElem?_toArray, List.getElem?_cons_succ, List.getElem?_cons_zero]; try exact rfl)); (case hw => rfl); (case hl => rfl); (case hsp => rfl); (case he => rfl); (case hv => (intro w' hw'; (try have hw2 := Ext.trans hEW hw'); go_simp; exact rfl)); simp only [Act.put, List.setIfInBounds_toArray, List.set_cons_succ, List.set_cons_zero]) | (apply wpR_pass; (case ho => (simp only [List.getElem?_toArray, List.getElem?_cons_succ, List.getElem?_cons_zero]; try exact rfl)); (case hw => rfl); (case hl => rfl); simp only [Act.put, List.setIfInBounds_toArray, List.set_cons_succ, List.set_cons_zero]))
                refine wpR_late (by ((simp only [List.getElem?_toArray, List.getElem?_cons_succ, List.getElem?_cons_zero]; try exact rfl))) _ rfl rfl (fun V v => PA2.lasts _ _ _ _ _ _ _ _ _ _) (fun V V' h => by have := h 5 (by kernel_rfl); simp only [this]) (fun w' hw' hK hF => ?_) (fun y11 hy11 => ?_)
                · have hF2 : PA1 w w2.heap.size (n0 + 2 * j + 1) m k0 s7 s6 a y5 w' := hF
                  have hc := pair2 hF2 (by omega) o (nl_nil w') (by simp) HAA.out
                  rw [HS7.out] at hc
                  clear c0 c1 c2 z0 z1 z2
                  unfold opAt; go_simp; refine upAt_enter ?_
                  refine hc.mono ?_
                  rintro e w8 ⟨z, rfl, h1, h2⟩
                  exact ⟨_, rfl, h1, h2⟩
                clear hy11
                simp only [Act.put, List.setIfInBounds_toArray, List.set_cons_succ, List.set_cons_zero]
                repeat (first | (apply wpR_one; (case ho => (simp only [List.getElem?_toArray, List.getElem?_cons_succ, List.getElem?_cons_zero]; try exact rfl)); (case hw => rfl); (case hl => rfl); (case hsp => rfl); (case he => rfl); (case hv => (intro w' hw'; (try (have hw2 := Ext.trans hEW hw')); (try (have hw3 := Exc.trans hEW hw')); (try (have hw4 := Exk.trans hEW hw')); (try (have hw5 := Mrk.trans hEW hw')); go_simp; exact rfl)); (case hw0 => (first | exact Below.refl _ _ | exact Exc.of_ext (Below.refl _ _) | exact Exk.of_ext (Below.refl _ _) | exact Mrk.of_ext (Below.refl _ _))); simp only [Act.put, List.setIfInBounds_toArray, List.set_cons_succ, List.set_cons_zero]) | (apply wpR_early; (case ho => (simp only [List.getElem?_toArray, List.getElem?_cons_succ, List.getElem?_cons_zero]; try exact rfl)); (case hw => rfl); (case hl => rfl); (case hsp => rfl); (case he => rfl); (case hv => (intro w' hw'; (try have hw2 := Ext.trans hEW hw'); go_simp; exact rfl)); simp only [Act.put, List.setIfInBounds_toArray, List.set_cons_succ, List.set_cons_zero]) | (apply wpR_pass; (case ho => (simp only [List.getElem?_toArray, List.getElem?_cons_succ, List.getElem?_cons_zero]; try exact rfl)); (case hw => rfl); (case hl => rfl); simp only [Act.put, List.setIfInBounds_toArray, List.set_cons_succ, List.set_cons_zero]))
                refine wpR_late (by ((simp only [List.getElem?_toArray, List.getElem?_cons_succ, List.getElem?_cons_zero]; try exact rfl))) _ rfl rfl (fun V v => PA3.lasts _ _ _ _ _ _ _ _) (fun V V' h => rfl) (fun w' hw' hK hF => ?_) (fun y12 hy12 => ?_)
                · have hF2 : PA2 w w2.heap.size (n0 + 2 * j + 1 + 1) m k0 s7 s7 a y5 y11 w' := hF
                  have hc := pair3 hF2 hal
                  clear c0 c1 c2 z0 z1 z2
                  unfold opAt; go_simp; refine upAt_enter ?_
                  refine hc.mono ?_
                  rintro e w8 ⟨z, rfl, h1, h2⟩
                  exact ⟨_, rfl, h1, h2⟩
                obtain ⟨_, _, rfl, _⟩ := hy12
                simp only [Act.put, List.setIfInBounds_toArray, List.set_cons_succ, List.set_cons_zero]
                repeat (first | (apply wpR_one; (case ho => (simp only [List.getElem?_toArray, List.getElem?_cons_succ, List.getElem?_cons_zero]; try exact rfl)); (case hw => rfl); (case hl => rfl); (case hsp => rfl); (case he => rfl); (case hv => (intro w' hw'; (try (have hw2 := Ext.trans hEW hw')); (try (have hw3 := Exc.trans hEW hw')); (try (have hw4 := Exk.trans hEW hw')); (try (have hw5 := Mrk.trans hEW hw')); go_simp; exact rfl)); (case hw0 => (first | exact Below.refl _ _ | exact Exc.of_ext (Below.refl _ _) | exact Exk.of_ext (Below.refl _ _) | exact Mrk.of_ext (Below.refl _ _))); simp only [Act.put, List.setIfInBounds_toArray, List.set_cons_succ, List.set_cons_zero]) | (apply wpR_early; (case ho => (simp only [List.getElem?_toArray, List.getElem?_cons_succ, List.getElem?_cons_zero]; try exact rfl)); (case hw => rfl); (case hl => rfl); (case hsp => rfl); (case he => rfl); (case hv => (intro w' hw'; (try have hw2 := Ext.trans hEW hw'); go_simp; exact rfl)); simp only [Act.put, List.setIfInBounds_toArray, List.set_cons_succ, List.set_cons_zero]) | (apply wpR_pass; (case ho => (simp only [List.getElem?_toArray, List.getElem?_cons_succ, List.getElem?_cons_zero]; try exact rfl)); (case hw => rfl); (case hl => rfl); simp only [Act.put, List.setIfInBounds_toArray, List.set_cons_succ, List.set_cons_zero]))
                apply wpR_nil
                apply hN
                intro w8 hE8 hK hF
                obtain ⟨_, m8, k8, h8⟩ : PA3 w w2.heap.size (n0 + 2 * j + 1 + 1) m k0 s7 s7 (.bool true) w8 := hF
                have h9 : PP w w2.heap.size (n0 + 2 * (j + 1)) w8 m k0 m8 k8 s7 s7 := h8.mono (by omega)
                clear hK hN hW hE8 hEW hF0 c0 c1 c2 z0 z1 z2 hPP h8
                go_wp2
                go_roundw
                case rel => exact ⟨j + 1, m8, k8, s7, by omega, by go_num, h9⟩
                case measure => simp [intOf]; omega
              · obtain rfl : j = N2 := by omega
                have hok := hPP.p.ok
                have hl6 := hok.len
                have e1 : ((s6.acts.length : Int) == (s6.acts.length : Int)) = true := by simp
                have q1 := mark_wide hPP.p (by omega)
                rw [hPP.mp] at q1
                go_wp2_with fail
                refine q1.mono ?_
                rintro e w8 ⟨rfl, hE8⟩
                have hP8 := hPP.ext hE8
                have q2 := mark_wide hP8.q (by omega)
                rw [hP8.kp] at q2
                clear q1
                go_wp2_with fail
                refine q2.mono ?_
                rintro e w9 ⟨rfl, hE9⟩
                have hP9 := hP8.ext hE9
                clear q2 hE8 hE9 hP8 hPP
                have q1 := counts_any hP9.p
                rw [hP9.mp] at q1
                go_wp2_with fail
                refine q1.mono ?_
                rintro e w10 ⟨A1, d1, rfl, hR1, hE8⟩
                have hP8 := hP9.ext hE8
                have q2 := counts_any hP8.q
                rw [hP8.kp] at q2
                clear q1
                go_wp2_with fail
                refine q2.mono ?_
                rintro e w11 ⟨A2, d2, rfl, hR2, hE9⟩
                have hP10 := hP8.ext hE9
                have hq := eqi_any (RowI.nlc (own_ext hR1 hE9 : RowI _ _ _ _ _) hok) (RowI.nlc hR2 hok) (by omega) (by omega)
                rw [decide_eq_true rfl] at hq
                clear q2 hR1 hR2 hP8 hP9
                go_wp2_with fail
                refine hq.mono ?_
                rintro e w12 ⟨rfl, hE10⟩
                have hP9 := hP10.ext hE10
                clear hq hP10 hE8 hE9 hE10
                have q1 := walked_any hP9.p 1 (-1)
                rw [stopL_neg, hP9.mp] at q1
                go_wp2_with fail
                refine q1.mono ?_
                rintro e w10 ⟨A1, d1, rfl, hR1, hE8⟩
                have hP8 := hP9.ext hE8
                have q2 := walked_any hP8.q 1 (-1)
                rw [stopL_neg, hP8.kp] at q2
                clear q1
                go_wp2_with fail
                refine q2.mono ?_
                rintro e w11 ⟨A2, d2, rfl, hR2, hE9⟩
                have hP10 := hP8.ext hE9
                have hpb := (pages_bd hok 1).1
                have hq := eqi_any (RowI.nlp (own_ext hR1 hE9 : RowI _ _ _ _ _) hok) (RowI.nlp hR2 hok) (by omega) (by omega)
                rw [decide_eq_true rfl] at hq
                clear q2 hR1 hR2 hP8 hP9
                go_wp2_with fail
                refine hq.mono ?_
                rintro e w12 ⟨rfl, hE10⟩
                have hP9 := hP10.ext hE10
                clear hq hP10 hE8 hE9 hE10
                have q1 := walked_any hP9.p 4 (-1)
                rw [stopL_neg, hP9.mp] at q1
                go_wp2_with fail
                refine q1.mono ?_
                rintro e w10 ⟨A1, d1, rfl, hR1, hE8⟩
                have hP8 := hP9.ext hE8
                have q2 := walked_any hP8.q 4 (-1)
                rw [stopL_neg, hP8.kp] at q2
                clear q1
                go_wp2_with fail
                refine q2.mono ?_
                rintro e w11 ⟨A2, d2, rfl, hR2, hE9⟩
                have hP10 := hP8.ext hE9
                have hpb := (pages_bd hok 4).1
                have hq := eqi_any (RowI.nlp (own_ext hR1 hE9 : RowI _ _ _ _ _) hok) (RowI.nlp hR2 hok) (by omega) (by omega)
                rw [decide_eq_true rfl] at hq
                clear q2 hR1 hR2 hP8 hP9
                go_wp2_with fail
                refine hq.mono ?_
                rintro e w12 ⟨rfl, hE10⟩
                have hP9 := hP10.ext hE10
                clear hq hP10 hE8 hE9 hE10
                have hE13 := hP9.ex
                go_wp2
                go_ret
                exact ⟨rfl, hE13⟩
end Go.Proofs.Ytaalhicdeibodaa
