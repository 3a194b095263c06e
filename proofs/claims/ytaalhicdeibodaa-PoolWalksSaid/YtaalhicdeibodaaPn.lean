/- Layer 10: the document's Settle; EqInts, CopyInts. No condition but the sizes. -/
import Derived.Test.YtaalhicdeibodaaPm
namespace Go.Proofs.Ytaalhicdeibodaa
open Go.RowKit Go.Proofs Go.Shelf
set_option linter.unusedVariables false
attribute [local go_sem] Oper.semAt_some
set_option maxRecDepth 100000 in
set_option maxHeartbeats 1000000 in
theorem rsettle_any {B N : Nat} {w : World} {r : Rm} {s : Pl} (h : RefS B N w r s) (hN : N ≤ 100000) (hBw : B ≤ w.heap.size) :
    Calls Try.prog 57 #[.pointer (some ⟨r.p, 0, none⟩)] w fun e w' => e = .returned (.tuple #[]) ∧ RefS B N w' r s.settleS ∧ RMoved r r w w' := by
  have hok' := h.ok.settle
  have hl := h.ok.last
  have hlen := h.ok.len
  have hac := h.ok.acts
  have hM0 : RefM B w r s.refs s.cnt (lastTo s.cnt s.last 0) s.acts s.floor := by
    rw [show lastTo s.cnt s.last 0 = s.last by simp [lastTo]]
    exact h.mem
  obtain ⟨cnt, hcnt⟩ : ∃ l, s.cnt = l := ⟨_, rfl⟩
  obtain ⟨last, hlast⟩ : ∃ l, s.last = l := ⟨_, rfl⟩
  rw [hcnt, hlast] at hM0 hl
  rw [hcnt] at hlen
  have hSS : ∀ W, RefM B W r s.refs cnt (lastOf cnt) s.acts (s.acts.length : Int) → RefS B N W r s.settleS := fun W hW => ⟨hok', by
    show RefM B W r s.refs s.cnt (lastOf s.cnt) s.acts (s.acts.length : Int)
    rw [hcnt]
    exact hW⟩
  clear h hcnt hlast hok'
  go_enter Try.func57, Try.ntmps57
  go_wp2
  go_loopw [2] (fun i wr => ∃ k : Nat, k ≤ cnt.length ∧ i = .int .i64 k ∧ RefM B wr r s.refs cnt (lastTo cnt last k) s.acts s.floor ∧ Exc (fun q _ => r.foot q) w wr) (fun i _ => cnt.length - (intOf i).toNat)
  case atStart => exact ⟨0, Nat.zero_le _, rfl, hM0, exc_refl _ _⟩
  case round =>
    clear hM0
    obtain ⟨k, hk, rfl, hM, hX⟩ := hrel
    rename World => v1
    have c1 : v1.cell? ⟨r.p, 1, none⟩ = some (.slice r.cA cnt.length r.cc) := hM.c 1
    by_cases hkl : k < cnt.length
    · obtain ⟨g, hg, hcc, _, d1, _⟩ := hM.cn.at hkl
      have hlk := lastTo_len hl (Nat.le_of_lt hkl)
      obtain ⟨gl, hgl, hlc, _, d2, f2⟩ := hM.la.at (i := k) (by omega)
      have hst := lastTo_set hl hkl
      have hgb : ∀ q, blkOf r.lA = some q ↔ q = gl := fun q => by rw [hgl]; exact ⟨fun e => by injection e with e; exact e.symm, fun e => by rw [e]; rfl⟩
      have hR : ∀ V, RefM B V r s.refs cnt (lastTo cnt last k) s.acts s.floor → RefM B (V.setCell ⟨gl, k, none⟩ (.bool (decide (0 < cnt.getD k 0)))) r s.refs cnt (lastTo cnt last (k + 1)) s.acts s.floor := fun V hV => by
        have hx := setCell_excp V gl k (.bool (decide (0 < cnt.getD k 0)))
        refine hV.turnL ⟨hx.os, hx.tape, hx.output, hx.size, fun q o ho hn => hx.block q o ho (fun e => hn ((hgb q).2 e))⟩ ?_ (by rw [lastTo_len hl (by omega), lastTo_len hl (by omega)])
        have hh := hV.la
        rw [hgl] at hh ⊢
        rw [← hst]
        exact hh.store (by omega) _
      have hcell : ∀ V, RefM B V r s.refs cnt (lastTo cnt last k) s.acts s.floor → V.cell? ⟨r.p, 1, none⟩ = some (.slice (some ⟨g, 0, none⟩) cnt.length r.cc) ∧ V.cell? ⟨r.p, 2, none⟩ = some (.slice (some ⟨gl, 0, none⟩) cnt.length r.lc) ∧ V.cell? ⟨g, k, none⟩ = some (.int .i64 (cnt.getD k 0)) ∧ (∃ b, V.cell? ⟨gl, k, none⟩ = some (.bool b)) ∧ V.frozen? ⟨gl, k, none⟩ = false := fun V hV => by
        refine ⟨by rw [← hg]; exact hV.c 1, by rw [← hgl, ← hlk]; exact hV.c 2, ?_, ?_, ?_⟩
        · obtain ⟨g', e', _, _, d', _⟩ := hV.cn.at hkl
          rw [hg] at e'
          injection e' with e'
          injection e' with e'
          subst e'
          exact d'
        · obtain ⟨g', e', _, _, d', _⟩ := hV.la.at (i := k) (by omega)
          rw [hgl] at e'
          injection e' with e'
          injection e' with e'
          subst e'
          exact ⟨_, d'⟩
        · obtain ⟨g', e', _, _, _, f'⟩ := hV.la.at (i := k) (by omega)
          rw [hgl] at e'
          injection e' with e'
          injection e' with e'
          subst e'
          exact f'
      have hpgl : r.p ≠ gl := fun e => own_not hM.la hM.hd (by decide) (by rw [ownBlock_eq, hgl, e]; rfl)
      have hggl : g ≠ gl := fun e => by
        obtain ⟨_, cs, hb⟩ := own_blk hM.la (q := gl) (by rw [ownBlock_eq, hgl]; rfl)
        exact own_not hM.cn hb (by decide) (by rw [ownBlock_eq, hg, e]; rfl)
      obtain ⟨c, hc⟩ : ∃ c, cnt.getD k 0 = c := ⟨_, rfl⟩
      rw [hc] at hR hcell
      have hkcc : k < r.cc := by omega
      have hklc : k < r.lc := by omega
      have hk0 : ¬ (k : Int) < 0 := by omega
      have hkI : (k : Int) < (cnt.length : Int) := by omega
      clear hc hst d1 d2 f2 hg hgl hlk
      go_wp2
      refine wp_region_rg (Exc fun q _ => q = gl) (rel_exc _) (fun V => RefM B V r s.refs cnt (lastTo cnt last k) s.acts s.floor) [0, 1, 2, 3, 4, 5, 6, 7, 8, 9, 10, 11, 12, 13, 14] (fun _ => none) (fun i' => match i' with
        | 14 => some fun _ _ V => RefM B V r s.refs cnt (lastTo cnt last (k + 1)) s.acts s.floor
        | _ => none) (fun _ => false) (by kernel_rfl) (by kernel_rfl) (fun _ _ h he => h.ext he) (hM.ext (Below.refl _ _).drew) (fun W N' hW hF0 hN' => ?_)
      have hEW : Exc (fun q _ => q = gl) W W := exc_refl _ _
      obtain ⟨z1, z2, z3, _, _⟩ := hcell W hF0
      have y1 : ∀ w', Exc (fun q _ => q = gl) W w' → w'.cell? ⟨r.p, 1, none⟩ = some (.slice (some ⟨g, 0, none⟩) cnt.length r.cc) := fun w' h => by
        rw [cell_of_row _ _ _ _ _ _ (h.blk hF0.hd hpgl), ← cell_of_row _ _ _ _ _ _ hF0.hd]; exact z1
      have y2 : ∀ w', Exc (fun q _ => q = gl) W w' → w'.cell? ⟨r.p, 2, none⟩ = some (.slice (some ⟨gl, 0, none⟩) cnt.length r.lc) := fun w' h => by
        rw [cell_of_row _ _ _ _ _ _ (h.blk hF0.hd hpgl), ← cell_of_row _ _ _ _ _ _ hF0.hd]; exact z2
      have y3 : ∀ w', Exc (fun q _ => q = gl) W w' → w'.cell? ⟨g, k, none⟩ = some (.int .i64 c) := fun w' h => by
        obtain ⟨o, ho⟩ : ∃ o, W.heap[g]? = some o := ⟨_, Array.getElem?_eq_getElem (World.block_lt_of_cell? W _ z3)⟩
        rw [World.cell?_of_block (w := W) (w' := w') (by show w'.heap[g]? = W.heap[g]?; rw [h.blk ho hggl, ho])]
        exact z3
      clear z1 z2 z3 c1
      repeat (first | (apply wpR_one; (case ho => (simp only [List.getElem?_toArray, List.getElem?_cons_succ, List.getElem?_cons_zero]; try exact rfl)); (case hw => rfl); (case hl => rfl); (case hsp => rfl); (case he => rfl); (case hv => (intro w' hw'; (try (have hw2 := Ext.trans hEW hw')); (try (have hw3 := Exc.trans hEW hw')); (try (have hw4 := Exk.trans hEW hw')); (try (have hw5 := Mrk.trans hEW hw')); go_simp; exact rfl)); (case hw0 => (first | exact Below.refl _ _ | exact Exc.of_ext (Below.refl _ _) | exact Exk.of_ext (Below.refl _ _) | exact Mrk.of_ext (Below.refl _ _))); simp only [Act.put, List.setIfInBounds_toArray, List.set_cons_succ, List.set_cons_zero]) | (apply wpR_early; (case ho => (simp only [List.getElem?_toArray, List.getElem?_cons_succ, List.getElem?_cons_zero]; try exact rfl)); (case hw => rfl); (case hl => rfl); (case hsp => rfl); (case he => rfl); (case hv => (intro w' hw'; (try have hw2 := Ext.trans hEW hw'); go_simp; exact rfl)); simp only [Act.put, List.setIfInBounds_toArray, List.set_cons_succ, List.set_cons_zero]) | (apply wpR_pass; (case ho => (simp only [List.getElem?_toArray, List.getElem?_cons_succ, List.getElem?_cons_zero]; try exact rfl)); (case hw => rfl); (case hl => rfl); simp only [Act.put, List.setIfInBounds_toArray, List.set_cons_succ, List.set_cons_zero]))
      refine wpR_late (by ((simp only [List.getElem?_toArray, List.getElem?_cons_succ, List.getElem?_cons_zero]; try exact rfl))) _ rfl rfl (fun V v => fun _ _ h he => RefM.ext h he) (fun V V' h => rfl) (fun w' hw' hK hF => ?_) (fun v hv => ?_)
      · have hF2 : RefM B w' r s.refs cnt (lastTo cnt last k) s.acts s.floor := hF
        obtain ⟨_, _, _, ⟨b5, c5⟩, f4⟩ := hcell w' hF2
        have h7 := hR _ hF2
        clear hF hF2 y1 y2 y3
        unfold opAt
        go_simp
        exact ⟨undef, rfl, setCell_excp _ _ _ _, h7⟩
      clear hv
      simp only [Act.put, List.setIfInBounds_toArray, List.set_cons_succ, List.set_cons_zero]
      apply wpR_nil
      apply hN'
      intro w7 hE7 hK hF
      have h7 : RefM B w7 r s.refs cnt (lastTo cnt last (k + 1)) s.acts s.floor := hF
      have hX7 : Exc (fun q _ => r.foot q) w w7 := (hX.trans (Exc.of_ext hW)).trans ⟨hE7.os, hE7.tape, hE7.output, hE7.size, fun q o ho hn => hE7.block q o ho (fun e => hn (.inr (.inr (.inl ((hgb q).2 e)))))⟩
      clear hK hN' hF y1 y2 y3 hEW hE7 hW hF0 hM hX hR hcell
      go_wp2
      go_roundw
      case rel => exact ⟨k + 1, by omega, by go_num, h7, hX7⟩
      case measure => simp [intOf]; omega
    · obtain rfl : k = cnt.length := by omega
      rw [lastTo_end hl] at hM
      have c3 : v1.cell? ⟨r.p, 3, none⟩ = some (.slice r.aA s.acts.length r.ac) := hM.c 3
      have c4 : v1.cell? ⟨r.p, 4, none⟩ = some (.int .i64 s.floor) := hM.c 4
      have f4 := hM.f 4
      have h9 : RefM B (v1.setCell ⟨r.p, 4, none⟩ (.int .i64 s.acts.length)) r s.refs cnt (lastOf cnt) s.acts (s.acts.length : Int) := by
        have := hM.turnP (A := r.aA) (c := r.ac) (az' := s.acts) (fl' := (s.acts.length : Int)) (setCell_excp v1 r.p 4 (.int .i64 s.acts.length)) (by
          rw [heap_setCell_same v1 r.p 4 _ _ _ hM.hd]
          rfl) hM.ac
        exact this
      have hX9 : Exc (fun q _ => r.foot q) w (v1.setCell ⟨r.p, 4, none⟩ (.int .i64 s.acts.length)) := by
        have hx := setCell_excp v1 r.p 4 (.int .i64 s.acts.length)
        exact hX.trans ⟨hx.os, hx.tape, hx.output, hx.size, fun q o ho hn => hx.block q o ho (fun e => hn (.inl e))⟩
      clear hM hX
      go_wp2
      go_end0
      exact ⟨rfl, hSS _ h9, rfl, hX9, fun q hq => .inl hq⟩
set_option maxHeartbeats 1000000 in
theorem eqi_any {w : World} {A A' : Option Addr} {c d : Nat} {l m : List Int} (hx : NLi w A c l) (hy : NLi w A' d m) (hl : l.length ≤ 140737488355328) (hm : m.length ≤ 140737488355328) :
    Calls Try.prog 17 #[.slice A l.length c, .slice A' m.length d] w fun e w' => e = .returned (.bool (decide (l = m))) ∧ Ext w w' := by
  by_cases hll : l.length = m.length
  · have HLL := Lib.hid hll
    have h1 : (l.length : Int) ≤ (m.length : Int) := by omega
    have h2 : (m.length : Int) ≤ (l.length : Int) := by omega
    have hneq : ((l.length : Int) != (m.length : Int)) = false := by rw [hll]; simp
    clear hll
    go_enter Try.func17, Try.ntmps17
    go_wp2
    clear h1 h2 hneq
    go_loopw [5] (fun i wr => ∃ k : Nat, k ≤ l.length ∧ i = .int .i64 k ∧ Hid (l.take k = m.take k) ∧ Ext w wr) (fun i _ => l.length - (intOf i).toNat)
    case atStart => exact ⟨0, Nat.zero_le _, rfl, Lib.hid rfl, Below.refl _ _⟩
    case round =>
      obtain ⟨k, hk, rfl, HT, hE⟩ := hrel
      rename World => v1
      by_cases hlt : k < l.length
      · have hlt2 : k < m.length := by have := HLL.out; omega
        obtain ⟨u, hu⟩ : ∃ u, l[k]? = some u := ⟨_, List.getElem?_eq_getElem hlt⟩
        obtain ⟨v, hv⟩ : ∃ v, m[k]? = some v := ⟨_, List.getElem?_eq_getElem hlt2⟩
        obtain ⟨b, off, hA, hkc, hcu⟩ := hx.at hu
        obtain ⟨b', off', hA', hkd, hcv⟩ := hy.at hv
        subst hA hA'
        have HU := Lib.hid hu
        have HV := Lib.hid hv
        have hk0 : ¬ (k : Int) < 0 := by omega
        have hk1 : (k : Int) < (l.length : Int) := by omega
        have hk2 : (k : Int) < (m.length : Int) := by omega
        clear hu hv
        go_wp2
        refine wp_region_rg Ext rel_ext (fun _ => True) [0, 1, 2, 3, 4, 5, 6, 7, 8] (fun _ => none) (fun _ => none) (fun _ => false) (by kernel_rfl) (by kernel_rfl) (fun _ _ _ _ => trivial) trivial (fun W N hW _ hN => ?_)
        have hEW := hW
        have y1 : ∀ w', Ext W w' → w'.cell? ⟨b, off + k, none⟩ = some (.int .i64 u) := fun w' h => hcu w' (hE.trans (hW.trans h))
        have y2 : ∀ w', Ext W w' → w'.cell? ⟨b', off' + k, none⟩ = some (.int .i64 v) := fun w' h => hcv w' (hE.trans (hW.trans h))
        repeat (first | (apply wpR_one; (case ho => (simp only [List.getElem?_toArray, List.getElem?_cons_succ, List.getElem?_cons_zero]; try exact rfl)); (case hw => rfl); (case hl => rfl); (case hsp => rfl); (case he => rfl); (case hv => (intro w' hw'; (try (have hw2 := Ext.trans hEW hw')); (try (have hw3 := Exc.trans hEW hw')); (try (have hw4 := Exk.trans hEW hw')); (try (have hw5 := Mrk.trans hEW hw')); go_simp; exact rfl)); (case hw0 => (first | exact Below.refl _ _ | exact Exc.of_ext (Below.refl _ _) | exact Exk.of_ext (Below.refl _ _) | exact Mrk.of_ext (Below.refl _ _))); simp only [Act.put, List.setIfInBounds_toArray, List.set_cons_succ, List.set_cons_zero]) | (apply wpR_early; (case ho => (simp only [List.getElem?_toArray, List.getElem?_cons_succ, List.getElem?_cons_zero]; try exact rfl)); (case hw => rfl); (case hl => rfl); (case hsp => rfl); (case he => rfl); (case hv => (intro w' hw'; (try have hw2 := Ext.trans hEW hw'); go_simp; exact rfl)); simp only [Act.put, List.setIfInBounds_toArray, List.set_cons_succ, List.set_cons_zero]) | (apply wpR_pass; (case ho => (simp only [List.getElem?_toArray, List.getElem?_cons_succ, List.getElem?_cons_zero]; try exact rfl)); (case hw => rfl); (case hl => rfl); simp only [Act.put, List.setIfInBounds_toArray, List.set_cons_succ, List.set_cons_zero]))
        apply wpR_nil
        apply hN
        intro w2 hE2 hK _
        have hEE := hE.trans (hEW.trans hE2)
        clear hK hN hW hEW hE2 y1 y2 hcu hcv
        by_cases huv : u = v
        · subst huv
          have hb : (u == u) = true := by simp
          have HT2 : Hid (l.take (k + 1) = m.take (k + 1)) := Lib.hid (by
            rw [List.take_add_one, List.take_add_one, HT.out, HU.out, HV.out])
          go_wp2
          go_roundw
          case rel => exact ⟨k + 1, by omega, by go_num, HT2, hEE⟩
          case measure => simp [intOf]; omega
        · have hne : l ≠ m := fun e => by
            have h1 := HU.out
            rw [e, HV.out] at h1
            injection h1 with h1
            exact huv h1.symm
          have HD : Hid (decide (l = m) = false) := Lib.hid (decide_eq_false hne)
          have hb : (u == v) = false := by simpa using huv
          clear hne
          go_wp2
          go_ret
          exact ⟨by rw [HD.out]; rfl, hEE⟩
      · obtain rfl : k = l.length := by omega
        have HD : Hid (decide (l = m) = true) := Lib.hid (decide_eq_true (by
          have := HT.out
          rw [List.take_length, HLL.out, List.take_length] at this
          exact this))
        clear hx hy
        go_wp2
        go_ret
        exact ⟨by rw [HD.out]; rfl, hE⟩
  · have hne : l ≠ m := fun e => hll (by rw [e])
    have HD : Hid (decide (l = m) = false) := Lib.hid (decide_eq_false hne)
    have hll' : ¬ (l.length : Int) = (m.length : Int) := by omega
    clear hne hll
    go_enter Try.func17, Try.ntmps17
    go_wp2
    go_ret
    exact ⟨by rw [HD.out]; rfl, Below.refl _ _⟩
end Go.Proofs.Ytaalhicdeibodaa
