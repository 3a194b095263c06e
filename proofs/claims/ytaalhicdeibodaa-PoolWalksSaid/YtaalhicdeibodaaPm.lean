/- Layer 10: the document's Undo. No condition but the sizes. -/
import Derived.Test.YtaalhicdeibodaaPl
namespace Go.Proofs.Ytaalhicdeibodaa
open Go.RowKit Go.Proofs Go.Shelf
set_option linter.unusedVariables false
attribute [local go_sem] Oper.semAt_some
def acLen (p : Nat) (w : World) : Nat := match w.cell? ⟨p, 3, none⟩ with | some (.slice _ n _) => n | _ => 0
def BoxA (B : Nat) (cs : Array Value) (z : Value) (V : World) : Prop := ∃ g, z = .pointer (some ⟨g, 0, none⟩) ∧ B ≤ g ∧ V.heap[g]? = some (.cells cs 96 (0, 0))
theorem BoxA.lasts (B : Nat) (cs : Array Value) (z : Value) : Lasts Ext (BoxA B cs z) := fun w' w2 ⟨g, h1, h2, h3⟩ he => ⟨g, h1, h2, he.blk h3⟩
theorem RefM.actAt {B : Nat} {w : World} {r : Rm} {refs : Int} {cnt : List Int} {last : List Bool} {az : List (Int × Int)} {fl : Int} (h : RefM B w r refs cnt last az fl) {i : Nat} {a : Int × Int} (ha : az[i]? = some a) :
    ∃ g, r.aA = some ⟨g, 0, none⟩ ∧ i < r.ac ∧ az.length ≤ r.ac ∧ B ≤ g ∧ g < w.heap.size ∧ (∀ W, Ext w W → W.cell? ⟨g, i * 2, none⟩ = some (.int .i64 a.1) ∧ W.cell? ⟨g, i * 2 + 1, none⟩ = some (.int .i64 a.2)) := by
  have hi := (List.getElem?_eq_some_iff.1 ha).1
  obtain ⟨a1, a2⟩ := az_at az i a ha
  rcases h.ac.2 with ⟨hv, h0⟩ | ⟨g, cap, cur, hv, hb, hg, hle, _⟩
  · omega
  · injection hv with h1 h2 h3
    refine ⟨g, h1, by omega, by omega, hb, (Array.getElem?_eq_some_iff.1 hg).1, fun W hW => ?_⟩
    have hac := own_ext h.ac hW
    rw [h1, h3] at hac
    refine ⟨?_, ?_⟩
    · rw [World.ownsRow.cellAt hac _ (by omega), a1]
    · rw [World.ownsRow.cellAt hac _ (by omega), a2]
set_option maxRecDepth 100000 in
set_option maxHeartbeats 2000000 in
theorem rundo_any {B N : Nat} {w : World} {r : Rm} {s : Pl} (h : RefS B N w r s) (hN : N ≤ 100000) (hBw : B ≤ w.heap.size) (k : Int) :
    Calls Try.prog 56 #[.pointer (some ⟨r.p, 0, none⟩), .int .i64 k] w fun e w' => ∃ r', e = .returned (.bool (s.undoB k)) ∧ RefS B N w' r' (s.undoS k) ∧ RMoved r r' w w' := by
  have hM := h.mem
  have c4 : w.cell? ⟨r.p, 4, none⟩ = some (.int .i64 s.floor) := hM.c 4
  have c3 : w.cell? ⟨r.p, 3, none⟩ = some (.slice r.aA s.acts.length r.ac) := hM.c 3
  have hac := h.ok.acts
  have hfl := h.ok.floor
  by_cases h1 : (s.floor : Int) ≤ k
  · by_cases h2 : k ≤ s.acts.length
    · have hub : s.undoB k = true := decide_eq_true ⟨h1, h2⟩
      have hus : s.undoS k = { s with cnt := backC s.cnt (s.acts.drop k.toNat), acts := s.acts.take k.toNat } := if_pos hub
      have hok' := h.ok.undo k
      rw [hub]
      obtain ⟨d, rfl⟩ : ∃ d : Nat, k = d := ⟨k.toNat, by omega⟩
      rw [Int.toNat_natCast] at hus
      have hbd : ∀ j, s.floor ≤ j → j ≤ s.acts.length → ∀ c ∈ backC s.cnt (s.acts.drop j), 0 ≤ c ∧ c ≤ s.refs := h.ok.bd
      have hpg : ∀ (i : Nat) a, s.floor ≤ i → s.acts[i]? = some a → 1 ≤ a.1 ∧ a.1 ≤ s.cnt.length ∧ (a.2 = 1 ∨ a.2 = -1) := fun i a hi ha => by
        refine h.ok.pg a ?_
        refine List.mem_of_getElem? (i := i - s.floor) ?_
        rw [List.getElem?_drop, show s.floor + (i - s.floor) = i by omega]
        exact ha
      have HUS := Lib.hid hus
      have hr := h.ok.refs
      have hlen := h.ok.len
      have hlast := h.ok.last
      have hM0 : RefM B w r s.refs (backC s.cnt (s.acts.drop s.acts.length)) s.last (s.acts.take s.acts.length) s.floor := by
        rw [List.drop_length, List.take_length]
        exact hM
      have gd1 : decide (d < s.floor) = false := decide_eq_false (by omega)
      have gd2 : decide (s.acts.length < d) = false := decide_eq_false (by omega)
      have gd3 : decide ((d : Int) < (s.floor : Int)) = false := decide_eq_false (by omega)
      have gd4 : decide ((s.acts.length : Int) < (d : Int)) = false := decide_eq_false (by omega)
      clear hus hub hM h
      go_enter Try.func56, Try.ntmps56
      go_wp2
      clear c3 c4
      go_loopw [5] (fun _ wr => ∃ j : Nat, d ≤ j ∧ j ≤ s.acts.length ∧ RefM B wr r s.refs (backC s.cnt (s.acts.drop j)) s.last (s.acts.take j) s.floor ∧ Exc (fun q _ => r.foot q) w wr) (fun _ wr => acLen r.p wr)
      case atStart => exact ⟨s.acts.length, by omega, Nat.le_refl _, hM0, exc_refl _ _⟩
      case round =>
        clear hM0
        obtain ⟨j, hdj, hj, hM, hX⟩ := hrel
        rename World => v1
        have hlj : (s.acts.take j).length = j := by rw [List.length_take]; omega
        have c3 : v1.cell? ⟨r.p, 3, none⟩ = some (.slice r.aA j r.ac) := by rw [← hlj]; exact hM.c 3
        have hml : acLen r.p v1 = j := by unfold acLen; rw [c3]
        clear hlj
        by_cases hlt : d < j
        · obtain ⟨i, rfl⟩ : ∃ i, j = i + 1 := ⟨j - 1, by omega⟩
          have hil : i < s.acts.length := by omega
          obtain ⟨a, ha⟩ : ∃ a, s.acts[i]? = some a := ⟨_, List.getElem?_eq_getElem hil⟩
          obtain ⟨a1, a2⟩ := a
          have hpa := hpg i _ (by omega) ha
          have hst := back_step (cnt := s.cnt) ha
          have hbi := hbd (i + 1) (by omega) hj
          simp only at hpa hst
          obtain ⟨cn, hcn⟩ : ∃ l, backC s.cnt (s.acts.drop (i + 1)) = l := ⟨_, rfl⟩
          rw [hcn] at hM hst hbi
          have hcl : cn.length = s.cnt.length := by rw [← hcn, backC_len]
          obtain ⟨az, haz⟩ : ∃ l, s.acts.take (i + 1) = l := ⟨_, rfl⟩
          have hazl : az.length = i + 1 := by rw [← haz, List.length_take]; omega
          have hazi : az[i]? = some (a1, a2) := by rw [← haz, List.getElem?_take, if_pos (by omega)]; exact ha
          have hazt : az.take i = s.acts.take i := by rw [← haz, List.take_take]; congr 1; omega
          rw [haz] at hM
          obtain ⟨n, rfl⟩ : ∃ n : Nat, a1 = (n : Int) + 1 := ⟨(a1 - 1).toNat, by omega⟩
          have hn : n < cn.length := by omega
          have hbump : bump cn ((n : Int) + 1) (-a2) = cn.set n (cn.getD n 0 - a2) := by
            unfold bump
            rw [show ((n : Int) + 1 - 1).toNat = n by omega]
            congr 1
          have hcbn := cnt_at hbi (by omega) n
          obtain ⟨g, hg, higc, hazc, hBg, hgl, hrd⟩ := hM.actAt hazi
          simp only at hrd
          have c3' : ∀ W, Ext v1 W → W.cell? ⟨r.p, 3, none⟩ = some (.slice (some ⟨g, 0, none⟩) (i + 1) r.ac) := fun W hW => by rw [← hazl, ← hg]; exact (hM.ext hW).c 3
          have higcI : (i : Int) < (r.ac : Int) := by omega
          have hi1 : (i : Int) < ((i + 1 : Nat) : Int) := by omega
          have HST := Lib.hid hst
          have HBU := Lib.hid hbump
          have HAZ := Lib.hid hazt
          have HAL := Lib.hid hazl
          have HM1 := Lib.hid hml
          have HGA := Lib.hid hg
          clear hcn haz hazt hst hbump hazl ha hazi hbi hml c3 hg
          have c3 := c3' v1 (Below.refl _ _)
          go_wp2
          refine wp_region_rg (Exc fun q _ => v1.heap.size ≤ q) (rel_exc _) (fun _ => True) [0, 1, 2, 3, 4, 5, 6, 7, 8, 9, 10, 11, 12, 13] (fun _ => none) (fun i => match i with
            | 12 => some fun _ z V => BoxA v1.heap.size #[.int .i64 0, .int .i64 0] z V
            | 13 => some fun V z W => BoxA v1.heap.size #[.int .i64 ((n : Int) + 1), .int .i64 a2] (V 12) W
            | _ => none) (fun _ => false) (by kernel_rfl) (by kernel_rfl) (fun _ _ _ _ => trivial) trivial (fun W N' hW _ hN' => ?_)
          have hEx : ∀ w', Exc (fun q _ => v1.heap.size ≤ q) W w' → Ext v1 w' := fun w' h => h.to_ext hW (fun _ _ h => h)
          have hEW : Exc (fun q _ => v1.heap.size ≤ q) W W := exc_refl _ _
          have y3 : ∀ w', Exc (fun q _ => v1.heap.size ≤ q) W w' → w'.cell? ⟨r.p, 3, none⟩ = some (.slice (some ⟨g, 0, none⟩) (i + 1) r.ac) := fun w' h => c3' w' (hEx w' h)
          have yg : ∀ w', Exc (fun q _ => v1.heap.size ≤ q) W w' → w'.cell? ⟨g, i * 2, none⟩ = some (.int .i64 ((n : Int) + 1)) := fun w' h => (hrd w' (hEx w' h)).1
          have yh : ∀ w', Exc (fun q _ => v1.heap.size ≤ q) W w' → w'.cell? ⟨g, i * 2 + 1, none⟩ = some (.int .i64 a2) := fun w' h => (hrd w' (hEx w' h)).2
          have hWs := hW.size
          have iw : IntKind.i64.wrap (i : Int) = (i : Int) := IntWalk.i64_in _ (by omega)
          have hi0 : ¬ (i : Int) < 0 := by omega
          have hi2 : (i : Int) < (i : Int) + 1 := by omega
          repeat (first | (apply wpR_one; (case ho => (simp only [List.getElem?_toArray, List.getElem?_cons_succ, List.getElem?_cons_zero]; try exact rfl)); (case hw => rfl); (case hl => rfl); (case hsp => rfl); (case he => rfl); (case hv => (intro w' hw'; (try (have hw2 := Ext.trans hEW hw')); (try (have hw3 := Exc.trans hEW hw')); (try (have hw4 := Exk.trans hEW hw')); (try (have hw5 := Mrk.trans hEW hw')); go_simp; exact rfl)); (case hw0 => (first | exact Below.refl _ _ | exact Exc.of_ext (Below.refl _ _) | exact Exk.of_ext (Below.refl _ _) | exact Mrk.of_ext (Below.refl _ _))); simp only [Act.put, List.setIfInBounds_toArray, List.set_cons_succ, List.set_cons_zero]) | (apply wpR_early; (case ho => (simp only [List.getElem?_toArray, List.getElem?_cons_succ, List.getElem?_cons_zero]; try exact rfl)); (case hw => rfl); (case hl => rfl); (case hsp => rfl); (case he => rfl); (case hv => (intro w' hw'; (try have hw2 := Ext.trans hEW hw'); go_simp; exact rfl)); simp only [Act.put, List.setIfInBounds_toArray, List.set_cons_succ, List.set_cons_zero]) | (apply wpR_pass; (case ho => (simp only [List.getElem?_toArray, List.getElem?_cons_succ, List.getElem?_cons_zero]; try exact rfl)); (case hw => rfl); (case hl => rfl); simp only [Act.put, List.setIfInBounds_toArray, List.set_cons_succ, List.set_cons_zero]))
          refine wpR_late (by ((simp only [List.getElem?_toArray, List.getElem?_cons_succ, List.getElem?_cons_zero]; try exact rfl))) _ rfl rfl (fun V v => BoxA.lasts _ _ _) (fun V V' h => rfl) (fun w' hw' hK hF => ?_) (fun v hv => ?_)
          · have hs := hw'.size
            clear y3 yg yh
            unfold opAt
            go_simp
            exact upAt_value ⟨Exc.of_ext (ext_alloc _ _), _, rfl, by omega, heap_alloc_new _ _⟩
          obtain ⟨gb, rfl⟩ : ∃ g, v = .pointer (some ⟨g, 0, none⟩) := by
            obtain ⟨_, _, g, h, _⟩ := hv
            exact ⟨g, h⟩
          clear hv
          simp only [Act.put, List.setIfInBounds_toArray, List.set_cons_succ, List.set_cons_zero]
          refine wpR_late (by ((simp only [List.getElem?_toArray, List.getElem?_cons_succ, List.getElem?_cons_zero]; try exact rfl))) _ rfl rfl (fun V v => BoxA.lasts _ _ _) (fun V V' h => by have := h 12 (by kernel_rfl); simp only [this]) (fun w' hw' hK hF => ?_) (fun v hv => ?_)
          · obtain ⟨g3, e3, hB3, hb3⟩ := hF
            have hgg : gb = g3 := by simpa using e3
            subst hgg
            refine opAt_list rfl #[] (fun Q hQ => ?_)
            refine wpList_store_box rfl _ _ _ rfl gb #[.int .i64 ((n : Int) + 1), .int .i64 a2] rfl rfl _ _ hb3 (by kernel_rfl) rfl (by simp [Value.oneCell']) ?_
            intro w5 h5 hg5
            exact hQ _ _ ⟨Exc.of_grown hg5 (fun q o h _ => by injection h with h; subst h; exact hB3), gb, rfl, hB3, h5⟩
          clear hv
          simp only [Act.put, List.setIfInBounds_toArray, List.set_cons_succ, List.set_cons_zero]
          apply wpR_nil
          apply hN'
          intro w5 hE5 hK hF
          obtain ⟨g3, e3, hB3, hb3⟩ := hF
          have hgg : gb = g3 := by simpa [Kr.upd, Kr.late] using e3
          subst hgg
          have hE45 := hEx w5 hE5
          have hM5 := hM.ext hE45
          have hX5 : Exc (fun q _ => r.foot q) w w5 := hX.trans (Exc.of_ext hE45)
          clear hK hN' e3 y3 yg yh hEx hW hEW hE5 c3 c3' hrd hM hX iw
          obtain ⟨gc, hgc, hcc, hBgc, d1, f1⟩ := hM5.cn.at hn
          have hgcl : gc < w5.heap.size := World.block_lt_of_cell? w5 _ d1
          have hgbne : gb ≠ gc := by
            intro e
            have := (World.ownsRow.lt hM5.cn gc (by rw [ownBlock_eq, hgc]; rfl)).2
            have e2 := own_not hM5.cn hb3 (by decide)
            exact e2 (by rw [ownBlock_eq, hgc, e]; rfl)
          obtain ⟨c, hcv⟩ : ∃ c, cn.getD n 0 = c := ⟨_, rfl⟩
          rw [hcv] at hcbn
          have HCV := Lib.hid hcv
          have hRc : ∀ V, RefM B V r s.refs cn s.last az s.floor → RefM B (V.setCell ⟨gc, n, none⟩ (.int .i64 (c - a2))) r s.refs (cn.set n (c - a2)) s.last az s.floor := fun V hV => by
            have hx := setCell_excp V gc n (.int .i64 (c - a2))
            have hgb : ∀ q, blkOf r.cA = some q ↔ q = gc := fun q => by rw [hgc]; exact ⟨fun e => by injection e with e; exact e.symm, fun e => by rw [e]; rfl⟩
            refine hV.turnC ⟨hx.os, hx.tape, hx.output, hx.size, fun q o ho hn => hx.block q o ho (fun e => hn ((hgb q).2 e))⟩ ?_ (by rw [List.length_set])
            have hh := hV.cn
            rw [hgc] at hh ⊢
            exact hh.store hn _
          have hcr : n < r.cc := by omega
          have hnl : (n : Int) < (cn.length : Int) := by omega
          have y1' : ∀ V, RefM B V r s.refs cn s.last az s.floor → V.cell? ⟨r.p, 1, none⟩ = some (.slice (some ⟨gc, 0, none⟩) cn.length r.cc) := fun V hV => by rw [← hgc]; exact hV.c 1
          have yc' : ∀ V, RefM B V r s.refs cn s.last az s.floor → V.cell? ⟨gc, n, none⟩ = some (.int .i64 c) ∧ V.frozen? ⟨gc, n, none⟩ = false := fun V hV => by
            obtain ⟨g', e', _, _, d', f'⟩ := hV.cn.at hn
            rw [hgc] at e'
            injection e' with e'
            injection e' with e'
            subst e'
            rw [HCV.out] at d'
            exact ⟨d', f'⟩
          have hrpgc : r.p ≠ gc := by
            intro e
            exact own_not hM5.cn hM5.hd (by decide) (by rw [ownBlock_eq, hgc, e]; rfl)
          have HGC := Lib.hid hgc
          clear hcv hgc d1 f1
          go_wp2
          refine wp_region_rg (Exc fun q _ => q = gc) (rel_exc _) (fun V => RefM B V r s.refs cn s.last az s.floor) [0, 1, 2, 3, 4, 5, 6, 7, 8, 9, 10, 11, 12, 13] (fun _ => none) (fun i => match i with
            | 13 => some fun _ _ V => RefM B V r s.refs (cn.set n (c - a2)) s.last az s.floor
            | _ => none) (fun i => match i with | 8 => true | _ => false) (by kernel_rfl) (by kernel_rfl) (fun _ _ h he => h.ext he) (hM5.ext (Below.refl _ _).drew) (fun W N' hW hF0 hN' => ?_)
          have hEW : Exc (fun q _ => q = gc) W W := exc_refl _ _
          have z0 : ∀ w', Exc (fun q _ => q = gc) W w' → w'.cell? ⟨gb, 0, none⟩ = some (.int .i64 ((n : Int) + 1)) := fun w' h => cell_of_row _ _ _ _ _ _ (h.blk (hW.blk hb3) hgbne)
          have z1 : ∀ w', Exc (fun q _ => q = gc) W w' → w'.cell? ⟨gb, 1, none⟩ = some (.int .i64 a2) := fun w' h => cell_of_row _ _ _ _ _ _ (h.blk (hW.blk hb3) hgbne)
          have y1 : ∀ w', Exc (fun q _ => q = gc) W w' → w'.cell? ⟨r.p, 1, none⟩ = some (.slice (some ⟨gc, 0, none⟩) cn.length r.cc) := fun w' h => by
            have e := y1' W hF0
            rw [cell_of_row _ _ _ _ _ _ hF0.hd] at e
            rw [cell_of_row _ _ _ _ _ _ (h.blk hF0.hd hrpgc)]
            exact e
          have yc : ∀ w', Ext W w' → w'.cell? ⟨gc, n, none⟩ = some (.int .i64 c) := fun w' h => (yc' w' (hF0.ext h)).1
          have iw : IntKind.i64.wrap (n : Int) = (n : Int) := IntWalk.i64_in _ (by omega)
          have iw2 : IntKind.i64.wrap (c - a2) = c - a2 := IntWalk.i64_in _ (by omega)
          have hn0 : ¬ (n : Int) < 0 := by omega
          have hnS : (n : Int) < (s.cnt.length : Int) := by omega
          clear hcl
          repeat (first | (apply wpR_one; (case ho => (simp only [List.getElem?_toArray, List.getElem?_cons_succ, List.getElem?_cons_zero]; try exact rfl)); (case hw => rfl); (case hl => rfl); (case hsp => rfl); (case he => rfl); (case hv => (intro w' hw'; (try (have hw2 := Ext.trans hEW hw')); (try (have hw3 := Exc.trans hEW hw')); (try (have hw4 := Exk.trans hEW hw')); (try (have hw5 := Mrk.trans hEW hw')); go_simp; exact rfl)); (case hw0 => (first | exact Below.refl _ _ | exact Exc.of_ext (Below.refl _ _) | exact Exk.of_ext (Below.refl _ _) | exact Mrk.of_ext (Below.refl _ _))); simp only [Act.put, List.setIfInBounds_toArray, List.set_cons_succ, List.set_cons_zero]) | (apply wpR_early; (case ho => (simp only [List.getElem?_toArray, List.getElem?_cons_succ, List.getElem?_cons_zero]; try exact rfl)); (case hw => rfl); (case hl => rfl); (case hsp => rfl); (case he => rfl); (case hv => (intro w' hw'; (try have hw2 := Ext.trans hEW hw'); go_simp; exact rfl)); simp only [Act.put, List.setIfInBounds_toArray, List.set_cons_succ, List.set_cons_zero]) | (apply wpR_pass; (case ho => (simp only [List.getElem?_toArray, List.getElem?_cons_succ, List.getElem?_cons_zero]; try exact rfl)); (case hw => rfl); (case hl => rfl); simp only [Act.put, List.setIfInBounds_toArray, List.set_cons_succ, List.set_cons_zero]))
          refine wpR_late (by ((simp only [List.getElem?_toArray, List.getElem?_cons_succ, List.getElem?_cons_zero]; try exact rfl))) _ rfl rfl (fun V v => fun _ _ h he => RefM.ext h he) (fun V V' h => rfl) (fun w' hw' hK hF => ?_) (fun v hv => ?_)
          · have hF2 : RefM B w' r s.refs cn s.last az s.floor := hF
            obtain ⟨c5, f4⟩ := yc' w' hF2
            have h7 := hRc _ hF2
            clear hF hF2 y1 yc z0 z1
            unfold opAt
            go_simp
            exact ⟨undef, rfl, setCell_excp _ _ _ _, h7⟩
          clear hv
          simp only [Act.put, List.setIfInBounds_toArray, List.set_cons_succ, List.set_cons_zero]
          apply wpR_nil
          apply hN'
          intro w7 hE7 hK hF
          have h7 : RefM B w7 r s.refs (cn.set n (c - a2)) s.last az s.floor := hF
          have hX7 : Exc (fun q _ => r.foot q) w w7 := (hX5.trans (Exc.of_ext hW)).trans ⟨hE7.os, hE7.tape, hE7.output, hE7.size, fun q o ho hn => hE7.block q o ho (fun e => hn (.inr (.inl (by rw [HGC.out, e]; rfl))))⟩
          have hcs : cn.set n (c - a2) = backC s.cnt (s.acts.drop i) := by rw [HST.out, HBU.out, HCV.out]
          rw [hcs] at h7
          clear hK hN' hF y1 yc z0 z1 hEW hE7 hW hF0 hM5 hX5 hRc y1' yc' iw iw2 hcs hb3 hi0 hi2
          obtain ⟨cn2, hcn2⟩ : ∃ l, backC s.cnt (s.acts.drop i) = l := ⟨_, rfl⟩
          rw [hcn2] at h7
          have HC2 := Lib.hid hcn2
          clear hcn2
          have hR9 : ∀ V, RefM B V r s.refs cn2 s.last az s.floor → RefM B (V.setCell ⟨r.p, 3, none⟩ (.slice (some ⟨g, 0, none⟩) i r.ac)) r s.refs cn2 s.last (s.acts.take i) s.floor := fun V hV => by
            have hlt : (s.acts.take i).length = i := by rw [List.length_take]; omega
            have hro : V.ownsRow B 96 2 (.slice r.aA (s.acts.take i).length r.ac) (s.acts.take i).length ((s.acts.take i).flatMap actC) := by
              have hac2 := hV.ac
              rw [HAL.out] at hac2
              have := own_prefix hac2
              rw [hlt, ← HAZ.out]
              have e : ∀ (l : List (Int × Int)) (i : Nat), (l.flatMap actC).take (i * 2) = (l.take i).flatMap actC := by
                intro l
                induction l with
                | nil => intro i; simp
                | cons x l ih =>
                  intro i
                  cases i with
                  | zero => simp
                  | succ i =>
                    rw [List.take_succ_cons, List.flatMap_cons, List.flatMap_cons, ← ih i, show (i + 1) * 2 = (actC x).length + i * 2 by simp; omega, List.take_append, List.take_of_length_le (by omega), Nat.add_sub_cancel_left]
              rw [← e]
              exact this
            have := hV.turnP (A := r.aA) (c := r.ac) (az' := s.acts.take i) (fl' := (s.floor : Int)) (setCell_excp V r.p 3 (.slice (some ⟨g, 0, none⟩) i r.ac)) (by
              rw [heap_setCell_same V r.p 3 _ _ _ hV.hd, hlt]
              rw [← HGA.out]
              rfl) hro
            exact this
          have c3' : ∀ V, RefM B V r s.refs cn2 s.last az s.floor → V.cell? ⟨r.p, 3, none⟩ = some (.slice (some ⟨g, 0, none⟩) (i + 1) r.ac) := fun V hV => by rw [← HAL.out, ← HGA.out]; exact hV.c 3
          have hicap : i ≤ r.ac := by omega
          go_wp2
          refine wp_region_rg (Exc fun q _ => q = r.p) (rel_exc _) (fun V => RefM B V r s.refs cn2 s.last az s.floor) [0, 1, 2, 3, 4, 5, 6, 7, 8, 9, 10, 11, 12, 13, 14] (fun _ => none) (fun i' => match i' with
            | 14 => some fun _ _ V => RefM B V r s.refs cn2 s.last (s.acts.take i) s.floor
            | _ => none) (fun i => match i with | 4 => true | 8 => true | _ => false) (by kernel_rfl) (by kernel_rfl) (fun _ _ h he => h.ext he) (h7.ext (Below.refl _ _).drew) (fun W N' hW hF0 hN' => ?_)
          have hEW : Exc (fun q _ => q = r.p) W W := exc_refl _ _
          have y3 : ∀ w', Ext W w' → w'.cell? ⟨r.p, 3, none⟩ = some (.slice (some ⟨g, 0, none⟩) (i + 1) r.ac) := fun w' h => c3' w' (hF0.ext h)
          have iw : IntKind.i64.wrap (i : Int) = (i : Int) := IntWalk.i64_in _ (by omega)
          have hi0 : ¬ (i : Int) < 0 := by omega
          have hi2 : (i : Int) < (i : Int) + 1 := by omega
          have hi3 : (i : Int) ≤ (r.ac : Int) := by omega
          repeat (first | (apply wpR_one; (case ho => (simp only [List.getElem?_toArray, List.getElem?_cons_succ, List.getElem?_cons_zero]; try exact rfl)); (case hw => rfl); (case hl => rfl); (case hsp => rfl); (case he => rfl); (case hv => (intro w' hw'; (try (have hw2 := Ext.trans hEW hw')); (try (have hw3 := Exc.trans hEW hw')); (try (have hw4 := Exk.trans hEW hw')); (try (have hw5 := Mrk.trans hEW hw')); go_simp; exact rfl)); (case hw0 => (first | exact Below.refl _ _ | exact Exc.of_ext (Below.refl _ _) | exact Exk.of_ext (Below.refl _ _) | exact Mrk.of_ext (Below.refl _ _))); simp only [Act.put, List.setIfInBounds_toArray, List.set_cons_succ, List.set_cons_zero]) | (apply wpR_early; (case ho => (simp only [List.getElem?_toArray, List.getElem?_cons_succ, List.getElem?_cons_zero]; try exact rfl)); (case hw => rfl); (case hl => rfl); (case hsp => rfl); (case he => rfl); (case hv => (intro w' hw'; (try have hw2 := Ext.trans hEW hw'); go_simp; exact rfl)); simp only [Act.put, List.setIfInBounds_toArray, List.set_cons_succ, List.set_cons_zero]) | (apply wpR_pass; (case ho => (simp only [List.getElem?_toArray, List.getElem?_cons_succ, List.getElem?_cons_zero]; try exact rfl)); (case hw => rfl); (case hl => rfl); simp only [Act.put, List.setIfInBounds_toArray, List.set_cons_succ, List.set_cons_zero]))
          refine wpR_late (by ((simp only [List.getElem?_toArray, List.getElem?_cons_succ, List.getElem?_cons_zero]; try exact rfl))) _ rfl rfl (fun V v => fun _ _ h he => RefM.ext h he) (fun V V' h => rfl) (fun w' hw' hK hF => ?_) (fun v hv => ?_)
          · have hF2 : RefM B w' r s.refs cn2 s.last az s.floor := hF
            have c5 := c3' w' hF2
            have f4 := hF2.f 3
            have h8 := hR9 _ hF2
            clear hF hF2 y3
            unfold opAt
            go_simp
            exact ⟨undef, rfl, setCell_excp _ _ _ _, h8⟩
          clear hv
          simp only [Act.put, List.setIfInBounds_toArray, List.set_cons_succ, List.set_cons_zero]
          apply wpR_nil
          apply hN'
          intro w9 hE9 hK hF
          have h9 : RefM B w9 r s.refs cn2 s.last (s.acts.take i) s.floor := hF
          have hX9 : Exc (fun q _ => r.foot q) w w9 := (hX7.trans (Exc.of_ext hW)).trans ⟨hE9.os, hE9.tape, hE9.output, hE9.size, fun q o ho hn => hE9.block q o ho (fun e => hn (.inl e))⟩
          have hml : acLen r.p w9 = i := by
            have hlj : (s.acts.take i).length = i := by rw [List.length_take]; omega
            have e := h9.c 3
            unfold acLen
            rw [e]
            exact hlj
          have HML := Lib.hid hml
          rw [← HC2.out] at h9
          clear hK hN' hF y3 hEW hE9 hW hF0 h7 hX7 hR9 c3' iw hi0 hi2 hi3 hml
          go_wp2
          go_roundw
          case rel => first | exact ⟨i, by omega, by omega, h9, hX9⟩ | exact ⟨_, _, _, _, _, _, _, _, _, _, _, _, _, _, _, _, _, _, _, _, _, _, _, _, _, _, _, _, _, _, _, _, _, _, _, _, _, _, _, _, _, _, _, _, _, _, _, ⟨i, by omega, by omega, h9, hX9⟩, rfl⟩
          case measure => rw [HML.out, HM1.out]; omega
        · obtain rfl : d = j := by omega
          have HS : Hid (RefS B N v1 r (s.undoS d)) := Lib.hid (by
            refine ⟨hok', ?_⟩
            rw [HUS.out]
            exact hM)
          have hmv : RMoved r r w v1 := ⟨rfl, hX, fun _ h => .inl h⟩
          clear hM hX hml
          go_wp2
          go_ret
          first | exact ⟨_, rfl, HS.out, hmv⟩ | exact ⟨rfl, _, HS.out, hmv⟩
    · have hub : s.undoB k = false := decide_eq_false (fun e => h2 e.2)
      have hus : s.undoS k = s := if_neg (by rw [hub]; decide)
      rw [hub, hus]
      go_enter Try.func56, Try.ntmps56
      go_wp2
      go_ret
      first | exact ⟨_, rfl, h, RMoved.refl _ _⟩ | exact ⟨rfl, _, h, RMoved.refl _ _⟩
  · have hub : s.undoB k = false := decide_eq_false (fun e => h1 e.1)
    have hus : s.undoS k = s := if_neg (by rw [hub]; decide)
    rw [hub, hus]
    go_enter Try.func56, Try.ntmps56
    go_wp2
    go_ret
    first | exact ⟨_, rfl, h, RMoved.refl _ _⟩ | exact ⟨rfl, _, h, RMoved.refl _ _⟩
end Go.Proofs.Ytaalhicdeibodaa
