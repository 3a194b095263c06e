/- Layer 10: the document's Load. No condition but the sizes. -/
import Derived.Test.YtaalhicdeibodaaPt
namespace Go.Proofs.Ytaalhicdeibodaa
open Go.RowKit Go.Proofs Go.Shelf
set_option linter.unusedVariables false
attribute [local go_sem] Oper.semAt_some
/-- The counts, as far as they were loaded. -/
def cntTo (cs : List Int) (k : Nat) : List Int := cs.take k ++ List.replicate (cs.length - k) 0
theorem cntTo_len {cs : List Int} {k : Nat} (hk : k ≤ cs.length) : (cntTo cs k).length = cs.length := by simp [cntTo]; omega
theorem cntTo_set {cs : List Int} {k : Nat} (hk : k < cs.length) : (cntTo cs k).set k (cs.getD k 0) = cntTo cs (k + 1) := by
  unfold cntTo
  rw [List.set_append_right _ _ (by rw [List.length_take]; omega)]
  rw [List.take_succ_eq_append_getElem hk, List.append_assoc]
  congr 1
  rw [List.length_take, Nat.min_eq_left (by omega), Nat.sub_self, show cs.length - k = (cs.length - (k + 1)) + 1 by omega, List.replicate_succ, List.set_cons_zero]
  simp [List.getD_eq_getElem?_getD, List.getElem?_eq_getElem hk]
theorem cntTo_end (cs : List Int) : cntTo cs cs.length = cs := by simp [cntTo]
theorem cntTo_zero (cs : List Int) : cntTo cs 0 = List.replicate cs.length 0 := by simp [cntTo]
theorem lastTo_zero (cs : List Int) (l : List Bool) : lastTo cs l 0 = l := by simp [lastTo]
set_option maxRecDepth 100000 in
set_option maxHeartbeats 2000000 in
theorem rload_pool {w : World} {A : Option Addr} {c : Nat} {cs : List Int} (refs : Int) (hr : NLi w A c cs) (h6 : cs.length ≤ 140737488355328) :
    Calls Try.prog 34 #[.int .i64 refs, .slice A cs.length c] w fun e w' => ∃ v, e = .returned (.tuple #[v, .int .i64 (loadE refs cs)]) ∧ Ext w w' ∧
    ((¬ loadE refs cs = 0 ∧ v = .pointer none) ∨ (loadE refs cs = 0 ∧ ∃ r, v = .pointer (some ⟨r.p, 0, none⟩) ∧ RefS w.heap.size 0 w' r (loadS refs cs))) := by
  have hne := rnew_pool (w := w) cs.length refs
  by_cases h : rightB cs.length refs = true
  · have hn0 : newE cs.length refs = 0 := if_pos h
    obtain ⟨g1, g2, g3, g4⟩ := of_decide_eq_true h
    rw [hn0] at hne
    have hL0 : (cs.all fun c => decide (0 ≤ c ∧ c ≤ refs)) = true → loadE refs cs = 0 := fun ha => by unfold loadE; rw [if_pos h, if_pos ha]
    have hL13 : (∃ j, j < cs.length ∧ ¬ (0 ≤ cs.getD j 0 ∧ cs.getD j 0 ≤ refs)) → loadE refs cs = 13 := fun ⟨j, hj, hno⟩ => by
      unfold loadE
      rw [if_pos h, if_neg]
      intro ha
      have := List.all_eq_true.1 ha cs[j] (List.getElem_mem hj)
      simp [List.getD_eq_getElem?_getD, List.getElem?_eq_getElem hj] at hno
      simp at this
      omega
    obtain ⟨E, hE⟩ : ∃ E, loadE refs cs = E := ⟨_, rfl⟩
    rw [hE] at hL0 hL13 ⊢
    have HL0 := Lib.hid hL0
    have HL13 := Lib.hid hL13
    clear h hn0 hL0 hL13 hE
    go_enter Try.func34, Try.ntmps34
    go_wp2_with fail
    refine hne.mono ?_
    rintro e w1 ⟨v, rfl, hE1, hv⟩
    obtain ⟨r, rfl, hS⟩ : ∃ r, v = .pointer (some ⟨r.p, 0, none⟩) ∧ RefS w.heap.size 0 w1 r (newS refs (cs.length : Int).toNat) := by
      rcases hv with ⟨h, _⟩ | ⟨_, h⟩
      · first | exact (h trivial).elim | exact absurd rfl h
      · exact h
    have hM0 : RefM w.heap.size w1 r refs (cntTo cs 0) (lastTo cs (List.replicate cs.length false) 0) [] 0 := by
      have := hS.mem
      rw [Int.toNat_natCast] at this
      rw [cntTo_zero, lastTo_zero]
      exact this
    have hl : (List.replicate cs.length false).length = cs.length := List.length_replicate
    obtain ⟨last, hlast⟩ : ∃ l, List.replicate cs.length false = l := ⟨_, rfl⟩
    rw [hlast] at hM0 hl
    clear hne hv hS hlast
    go_wp2
    go_loopw [8] (fun i wr => ∃ k : Nat, k ≤ cs.length ∧ i = .int .i64 k ∧ RefM w.heap.size wr r refs (cntTo cs k) (lastTo cs last k) [] 0 ∧ Ext w wr ∧ Hid (∀ j, j < k → 0 ≤ cs.getD j 0 ∧ cs.getD j 0 ≤ refs)) (fun i _ => cs.length - (intOf i).toNat)
    case atStart => exact ⟨0, Nat.zero_le _, rfl, hM0, hE1, Lib.hid fun j hj => by omega⟩
    case round =>
      clear hM0 hE1
      obtain ⟨k, hk, rfl, hM, hE, HB⟩ := hrel
      rename World => v1
      by_cases hkl : k < cs.length
      · obtain ⟨u, hu⟩ : ∃ u, cs[k]? = some u := ⟨_, List.getElem?_eq_getElem hkl⟩
        have hud : cs.getD k 0 = u := by simp [List.getD_eq_getElem?_getD, hu]
        obtain ⟨b, off, rfl, hkc, hcu⟩ := hr.at hu
        have q0 := hcu v1 hE
        have hk0 : ¬ (k : Int) < 0 := by omega
        have hkI : (k : Int) < (cs.length : Int) := by omega
        by_cases hu1 : u < 0
        · have hE13 : E = 13 := HL13.out ⟨k, hkl, by rw [hud]; omega⟩
          subst hE13
          clear hud hu
          go_wp2
          refine bodyPost_ret (results_tmp2 rfl _ _ _) rfl ?_
          first | exact ⟨rfl, hE⟩ | exact ⟨_, rfl, hE, .inl ⟨by decide, rfl⟩⟩
        · by_cases hu2 : refs < u
          · have hE13 : E = 13 := HL13.out ⟨k, hkl, by rw [hud]; omega⟩
            subst hE13
            clear hud hu
            go_wp2
            refine bodyPost_ret (results_tmp2 rfl _ _ _) rfl ?_
            first | exact ⟨rfl, hE⟩ | exact ⟨_, rfl, hE, .inl ⟨by decide, rfl⟩⟩
          · have HB2 : Hid (∀ j, j < k + 1 → 0 ≤ cs.getD j 0 ∧ cs.getD j 0 ≤ refs) := Lib.hid (fun j hj => by
              by_cases e : j = k
              · rw [e, hud]; omega
              · exact HB.out j (by omega))
            have hcset := cntTo_set hkl
            have hlset := lastTo_set hl hkl
            rw [hud] at hcset hlset
            have hct := cntTo_len (cs := cs) (k := k) (by omega)
            have hct2 := cntTo_len (cs := cs) (k := k + 1) (by omega)
            have hlk := lastTo_len hl (k := k) (by omega)
            have hlk2 := lastTo_len hl (k := k + 1) (by omega)
            obtain ⟨gc, hgc, hcc, hBgc, _, _⟩ := hM.cn.at (i := k) (by omega)
            obtain ⟨gl, hgl, hlc, hBgl, _, _⟩ := hM.la.at (i := k) (by omega)
            have hgb : ∀ q, blkOf r.cA = some q ↔ q = gc := fun q => by rw [hgc]; exact ⟨fun e => by injection e with e; exact e.symm, fun e => by rw [e]; rfl⟩
            have hgb2 : ∀ q, blkOf r.lA = some q ↔ q = gl := fun q => by rw [hgl]; exact ⟨fun e => by injection e with e; exact e.symm, fun e => by rw [e]; rfl⟩
            have hR1 : ∀ V, RefM w.heap.size V r refs (cntTo cs k) (lastTo cs last k) [] 0 → RefM w.heap.size (V.setCell ⟨gc, k, none⟩ (.int .i64 u)) r refs (cntTo cs (k + 1)) (lastTo cs last k) [] 0 := fun V hV => by
              have hx := setCell_excp V gc k (.int .i64 u)
              refine hV.turnC ⟨hx.os, hx.tape, hx.output, hx.size, fun q o ho hn => hx.block q o ho (fun e => hn ((hgb q).2 e))⟩ ?_ (by rw [hct, hct2])
              have hh := hV.cn
              rw [hgc] at hh ⊢
              rw [← hcset]
              exact hh.store (by omega) _
            have hR2 : ∀ V, RefM w.heap.size V r refs (cntTo cs (k + 1)) (lastTo cs last k) [] 0 → RefM w.heap.size (V.setCell ⟨gl, k, none⟩ (.bool (decide (0 < u)))) r refs (cntTo cs (k + 1)) (lastTo cs last (k + 1)) [] 0 := fun V hV => by
              have hx := setCell_excp V gl k (.bool (decide (0 < u)))
              refine hV.turnL ⟨hx.os, hx.tape, hx.output, hx.size, fun q o ho hn => hx.block q o ho (fun e => hn ((hgb2 q).2 e))⟩ ?_ (by rw [hlk, hlk2])
              have hh := hV.la
              rw [hgl] at hh ⊢
              rw [← hlset]
              exact hh.store (by omega) _
            have hc1 : ∀ V, RefM w.heap.size V r refs (cntTo cs k) (lastTo cs last k) [] 0 → V.cell? ⟨r.p, 1, none⟩ = some (.slice (some ⟨gc, 0, none⟩) cs.length r.cc) ∧ (∃ z, V.cell? ⟨gc, k, none⟩ = some (.int .i64 z)) ∧ V.frozen? ⟨gc, k, none⟩ = false := fun V hV => by
              refine ⟨by rw [← hgc, ← hct]; exact hV.c 1, ?_⟩
              obtain ⟨g', e', _, _, d', f'⟩ := hV.cn.at (i := k) (by omega)
              rw [hgc] at e'
              injection e' with e'
              injection e' with e'
              subst e'
              exact ⟨⟨_, d'⟩, f'⟩
            have hc2 : ∀ V, RefM w.heap.size V r refs (cntTo cs (k + 1)) (lastTo cs last k) [] 0 → V.cell? ⟨r.p, 2, none⟩ = some (.slice (some ⟨gl, 0, none⟩) cs.length r.lc) ∧ (∃ z, V.cell? ⟨gl, k, none⟩ = some (.bool z)) ∧ V.frozen? ⟨gl, k, none⟩ = false := fun V hV => by
              refine ⟨by rw [← hgl, ← hlk]; exact hV.c 2, ?_⟩
              obtain ⟨g', e', _, _, d', f'⟩ := hV.la.at (i := k) (by omega)
              rw [hgl] at e'
              injection e' with e'
              injection e' with e'
              subst e'
              exact ⟨⟨_, d'⟩, f'⟩
            have hpgc : r.p ≠ gc := fun e => own_not hM.cn hM.hd (by decide) (by rw [ownBlock_eq, hgc, e]; rfl)
            have hpgl : r.p ≠ gl := fun e => own_not hM.la hM.hd (by decide) (by rw [ownBlock_eq, hgl, e]; rfl)
            have hkcc : k < r.cc := by omega
            have hklc : k < r.lc := by omega
            have hul : 0 ≤ u := by omega
            have hur : u ≤ refs := by omega
            clear hud hu hcset hlset hct hct2 hlk hlk2 hgc hgl hu1 hu2 hcc hlc
            go_wp2
            refine wp_region_rg (Exc fun q _ => q = gc) (rel_exc _) (fun V => RefM w.heap.size V r refs (cntTo cs k) (lastTo cs last k) [] 0) [0, 1, 2, 3, 4, 5, 6, 7, 8, 9, 10] (fun _ => none) (fun i' => match i' with
              | 10 => some fun _ _ V => RefM w.heap.size V r refs (cntTo cs (k + 1)) (lastTo cs last k) [] 0
              | _ => none) (fun _ => false) (by kernel_rfl) (by kernel_rfl) (fun _ _ h he => h.ext he) (hM.ext (Below.refl _ _).drew) (fun W N' hW hF0 hN' => ?_)
            have hEW : Exc (fun q _ => q = gc) W W := exc_refl _ _
            have hWs := hE.size
            have hE4 : ∀ w', Exc (fun q _ => q = gc) W w' → Ext w w' := fun w' h => h.to_ext (hE.trans hW) (fun q _ e => by omega)
            have y0 : ∀ w', Exc (fun q _ => q = gc) W w' → w'.cell? ⟨b, off + k, none⟩ = some (.int .i64 u) := fun w' h => hcu w' (hE4 w' h)
            have y1 : ∀ w', Exc (fun q _ => q = gc) W w' → w'.cell? ⟨r.p, 1, none⟩ = some (.slice (some ⟨gc, 0, none⟩) cs.length r.cc) := fun w' h => by
              rw [cell_of_row _ _ _ _ _ _ (h.blk hF0.hd hpgc), ← cell_of_row _ _ _ _ _ _ hF0.hd]; exact (hc1 W hF0).1
            clear q0
            repeat (first | (apply wpR_one; (case ho => (simp only [List.getElem?_toArray, List.getElem?_cons_succ, List.getElem?_cons_zero]; try exact rfl)); (case hw => rfl); (case hl => rfl); (case hsp => rfl); (case he => rfl); (case hv => (intro w' hw'; (try (have hw2 := Ext.trans hEW hw')); (try (have hw3 := Exc.trans hEW hw')); (try (have hw4 := Exk.trans hEW hw')); (try (have hw5 := Mrk.trans hEW hw')); go_simp; exact rfl)); (case hw0 => (first | exact Below.refl _ _ | exact Exc.of_ext (Below.refl _ _) | exact Exk.of_ext (Below.refl _ _) | exact Mrk.of_ext (Below.refl _ _))); simp only [Act.put, List.setIfInBounds_toArray, List.set_cons_succ, List.set_cons_zero]) | (apply wpR_early; (case ho => (simp only [List.getElem?_toArray, List.getElem?_cons_succ, List.getElem?_cons_zero]; try exact rfl)); (case hw => rfl); (case hl => rfl); (case hsp => rfl); (case he => rfl); (case hv => (intro w' hw'; (try have hw2 := Ext.trans hEW hw'); go_simp; exact rfl)); simp only [Act.put, List.setIfInBounds_toArray, List.set_cons_succ, List.set_cons_zero]) | (apply wpR_pass; (case ho => (simp only [List.getElem?_toArray, List.getElem?_cons_succ, List.getElem?_cons_zero]; try exact rfl)); (case hw => rfl); (case hl => rfl); simp only [Act.put, List.setIfInBounds_toArray, List.set_cons_succ, List.set_cons_zero]))
            refine wpR_late (by ((simp only [List.getElem?_toArray, List.getElem?_cons_succ, List.getElem?_cons_zero]; try exact rfl))) _ rfl rfl (fun V v => fun _ _ h he => RefM.ext h he) (fun V V' h => rfl) (fun w' hw' hK hF => ?_) (fun v hv => ?_)
            · have hF2 : RefM w.heap.size w' r refs (cntTo cs k) (lastTo cs last k) [] 0 := hF
              obtain ⟨_, ⟨z5, c5⟩, f4⟩ := hc1 w' hF2
              have h7 := hR1 _ hF2
              clear hF hF2 y0 y1
              unfold opAt
              go_simp
              exact ⟨undef, rfl, setCell_excp _ _ _ _, h7⟩
            clear hv
            simp only [Act.put, List.setIfInBounds_toArray, List.set_cons_succ, List.set_cons_zero]
            apply wpR_nil
            apply hN'
            intro w7 hE7 hK hF
            have h7 : RefM w.heap.size w7 r refs (cntTo cs (k + 1)) (lastTo cs last k) [] 0 := hF
            have hX7 := hE4 w7 hE7
            clear hK hN' hF y0 y1 hEW hE7 hW hF0 hM hE hE4 hR1 hc1
            go_wp2
            refine wp_region_rg (Exc fun q _ => q = gl) (rel_exc _) (fun V => RefM w.heap.size V r refs (cntTo cs (k + 1)) (lastTo cs last k) [] 0) [0, 1, 2, 3, 4, 5, 6, 7, 8, 9, 10, 11] (fun _ => none) (fun i' => match i' with
              | 11 => some fun _ _ V => RefM w.heap.size V r refs (cntTo cs (k + 1)) (lastTo cs last (k + 1)) [] 0
              | _ => none) (fun _ => false) (by kernel_rfl) (by kernel_rfl) (fun _ _ h he => h.ext he) (h7.ext (Below.refl _ _).drew) (fun W N' hW hF0 hN' => ?_)
            have hEW : Exc (fun q _ => q = gl) W W := exc_refl _ _
            have hWs := hX7.size
            have hE4 : ∀ w', Exc (fun q _ => q = gl) W w' → Ext w w' := fun w' h => h.to_ext (hX7.trans hW) (fun q _ e => by omega)
            have y0 : ∀ w', Exc (fun q _ => q = gl) W w' → w'.cell? ⟨b, off + k, none⟩ = some (.int .i64 u) := fun w' h => hcu w' (hE4 w' h)
            have y1 : ∀ w', Exc (fun q _ => q = gl) W w' → w'.cell? ⟨r.p, 2, none⟩ = some (.slice (some ⟨gl, 0, none⟩) cs.length r.lc) := fun w' h => by
              rw [cell_of_row _ _ _ _ _ _ (h.blk hF0.hd hpgl), ← cell_of_row _ _ _ _ _ _ hF0.hd]; exact (hc2 W hF0).1
            repeat (first | (apply wpR_one; (case ho => (simp only [List.getElem?_toArray, List.getElem?_cons_succ, List.getElem?_cons_zero]; try exact rfl)); (case hw => rfl); (case hl => rfl); (case hsp => rfl); (case he => rfl); (case hv => (intro w' hw'; (try (have hw2 := Ext.trans hEW hw')); (try (have hw3 := Exc.trans hEW hw')); (try (have hw4 := Exk.trans hEW hw')); (try (have hw5 := Mrk.trans hEW hw')); go_simp; exact rfl)); (case hw0 => (first | exact Below.refl _ _ | exact Exc.of_ext (Below.refl _ _) | exact Exk.of_ext (Below.refl _ _) | exact Mrk.of_ext (Below.refl _ _))); simp only [Act.put, List.setIfInBounds_toArray, List.set_cons_succ, List.set_cons_zero]) | (apply wpR_early; (case ho => (simp only [List.getElem?_toArray, List.getElem?_cons_succ, List.getElem?_cons_zero]; try exact rfl)); (case hw => rfl); (case hl => rfl); (case hsp => rfl); (case he => rfl); (case hv => (intro w' hw'; (try have hw2 := Ext.trans hEW hw'); go_simp; exact rfl)); simp only [Act.put, List.setIfInBounds_toArray, List.set_cons_succ, List.set_cons_zero]) | (apply wpR_pass; (case ho => (simp only [List.getElem?_toArray, List.getElem?_cons_succ, List.getElem?_cons_zero]; try exact rfl)); (case hw => rfl); (case hl => rfl); simp only [Act.put, List.setIfInBounds_toArray, List.set_cons_succ, List.set_cons_zero]))
            refine wpR_late (by ((simp only [List.getElem?_toArray, List.getElem?_cons_succ, List.getElem?_cons_zero]; try exact rfl))) _ rfl rfl (fun V v => fun _ _ h he => RefM.ext h he) (fun V V' h => rfl) (fun w' hw' hK hF => ?_) (fun v hv => ?_)
            · have hF2 : RefM w.heap.size w' r refs (cntTo cs (k + 1)) (lastTo cs last k) [] 0 := hF
              obtain ⟨_, ⟨z5, c5⟩, f4⟩ := hc2 w' hF2
              have h8 := hR2 _ hF2
              clear hF hF2 y0 y1
              unfold opAt
              go_simp
              exact ⟨undef, rfl, setCell_excp _ _ _ _, h8⟩
            clear hv
            simp only [Act.put, List.setIfInBounds_toArray, List.set_cons_succ, List.set_cons_zero]
            apply wpR_nil
            apply hN'
            intro w9 hE9 hK hF
            have h9 : RefM w.heap.size w9 r refs (cntTo cs (k + 1)) (lastTo cs last (k + 1)) [] 0 := hF
            have hX9 := hE4 w9 hE9
            clear hK hN' hF y0 y1 hEW hE9 hW hF0 h7 hX7 hE4 hR2 hc2 hcu
            go_wp2
            go_roundw
            case rel => exact ⟨k + 1, by omega, by go_num, h9, hX9, HB2⟩
            case measure => simp [intOf]; omega
      · obtain rfl : k = cs.length := by omega
        rw [cntTo_end, lastTo_end hl] at hM
        have hE0 : E = 0 := HL0.out (List.all_eq_true.2 fun z hz => by
          obtain ⟨j, hj, rfl⟩ := List.getElem_of_mem hz
          have := HB.out j hj
          simp only [List.getD_eq_getElem?_getD, List.getElem?_eq_getElem hj, Option.getD_some] at this
          exact decide_eq_true this)
        have hS : RefS w.heap.size 0 v1 r (loadS refs cs) := ⟨load_ok ⟨g3, by omega⟩ (by omega) (fun z hz => by
          obtain ⟨j, hj, rfl⟩ := List.getElem_of_mem hz
          have := HB.out j hj
          simpa only [List.getD_eq_getElem?_getD, List.getElem?_eq_getElem hj, Option.getD_some] using this), hM⟩
        subst hE0
        clear hM
        go_wp2
        refine bodyPost_ret (results_tmp2 rfl _ _ _) rfl ?_
        first | exact ⟨_, rfl, hE, r, rfl, hS⟩ | exact ⟨_, rfl, hE, .inr ⟨by trivial, r, rfl, hS⟩⟩ | exact ⟨rfl, hE, r, rfl, hS⟩
  · have hn1 : newE cs.length refs = 1 := if_neg h
    have hl1 : loadE refs cs = 1 := if_neg h
    rw [hn1] at hne
    rw [hl1]
    clear h hn1 hl1
    go_enter Try.func34, Try.ntmps34
    go_wp2_with fail
    refine hne.mono ?_
    rintro e w1 ⟨v, rfl, hE1, hv⟩
    clear hne
    go_wp2
    refine bodyPost_ret (results_tmp2 rfl _ _ _) rfl ?_
    first | exact ⟨rfl, hE1⟩ | exact ⟨_, rfl, hE1, .inl ⟨by decide, rfl⟩⟩
end Go.Proofs.Ytaalhicdeibodaa
