/- Layer 10: Undo. No condition but the sizes. -/
import Derived.Test.YtaalhicdeibodaaPe
namespace Go.Proofs.Ytaalhicdeibodaa
open Go.RowKit Go.Proofs Go.Shelf
set_option linter.unusedVariables false
attribute [local go_sem] Oper.semAt_some
theorem PoolM.actAt {B : Nat} {w : World} {m : Pm} {refs : Int} {cnt : List Int} {last : List Bool} {L : List Rn} {ta : List Int} {az : List (Int × Int)} {fl : Int} (h : PoolM B w m refs cnt last L ta az fl) {i : Nat} {a : Int × Int} (ha : az[i]? = some a) :
    ∃ g b, m.aA = some ⟨g, 0, none⟩ ∧ i < m.ac ∧ az.length ≤ m.ac ∧ w.cell? ⟨g, i, none⟩ = some (actV b) ∧ ActAt w m.p a b := by
  have hi := (List.getElem?_eq_some_iff.1 ha).1
  have hbi : i < m.bs.length := by rw [h.bl]; exact hi
  rcases h.ac.2 with ⟨hv, h0⟩ | ⟨g, cap, cur, hv, hb, hg, hle, _⟩
  · omega
  · have hac := h.ac
    injection hv with h1 h2 h3
    rw [h1, h3] at hac
    refine ⟨g, m.bs[i], h1, by omega, by omega, ?_, h.cl i a _ ha (List.getElem?_eq_getElem hbi)⟩
    rw [World.ownsRow.cellAt hac _ (by omega)]
    simp [List.getElem?_eq_getElem hbi]
theorem mark_wide {B N : Nat} {w : World} {m : Pm} {s : Pl} (h : PoolS B N w m s) (hN : N ≤ 100000) :
    Calls Try.prog 15 #[.pointer (some ⟨m.p, 0, none⟩)] w fun e w' => e = .returned (.int .i64 s.acts.length) ∧ Ext w w' := by
  obtain ⟨L, hM, _⟩ := h.mem
  have h1 := h.ok.acts
  have h2 := h.ok.floor
  refine (mark_any hM (by omega) (by rw [List.length_drop]; omega)).mono ?_
  rintro e w' ⟨rfl, hE⟩
  refine ⟨?_, hE⟩
  rw [List.length_drop, show (s.floor : Int) + ((s.acts.length - s.floor : Nat) : Int) = (s.acts.length : Int) by omega]
theorem back_step {cnt : List Int} {az : List (Int × Int)} {i : Nat} {a : Int × Int} (ha : az[i]? = some a) : backC cnt (az.drop i) = bump (backC cnt (az.drop (i + 1))) a.1 (-a.2) := by
  obtain ⟨hi, rfl⟩ := List.getElem?_eq_some_iff.1 ha
  rw [List.drop_eq_getElem_cons hi]
  rfl
set_option maxRecDepth 100000 in
set_option maxHeartbeats 2000000 in
theorem undo_any {B N : Nat} {w : World} {m : Pm} {s : Pl} (h : PoolS B N w m s) (hN : N ≤ 100000) (hBw : B ≤ w.heap.size) (k : Int) :
    Calls Try.prog 29 #[.pointer (some ⟨m.p, 0, none⟩), .int .i64 k] w fun e w' => ∃ m', e = .returned (.bool (s.undoB k)) ∧ PoolS B N w' m' (s.undoS k) ∧ Moved m m' w w' := by
  have hmk := mark_wide h hN
  obtain ⟨L, hM, hF⟩ := h.mem
  have c10 : w.cell? ⟨m.p, 10, none⟩ = some (.int .i64 s.floor) := hM.c 10
  have hac := h.ok.acts
  have hfl := h.ok.floor
  by_cases h1 : (s.floor : Int) ≤ k
  · by_cases h2 : k ≤ s.acts.length
    · -- the acts are undone
      have hub : s.undoB k = true := decide_eq_true ⟨h1, h2⟩
      have hus : s.undoS k = { s with cnt := backC s.cnt (s.acts.drop k.toNat), acts := s.acts.take k.toNat } := if_pos hub
      have hok' := h.ok.undo k
      rw [hub]
      obtain ⟨d, rfl⟩ : ∃ d : Nat, k = (s.floor : Int) + d := ⟨(k - s.floor).toNat, by omega⟩
      obtain ⟨az, haz⟩ : ∃ l, s.acts.drop s.floor = l := ⟨_, rfl⟩
      have hal1 : az.length + s.floor ≤ s.acts.length := by rw [← haz, List.length_drop]; omega
      have hal2 : s.acts.length ≤ az.length + s.floor := by rw [← haz, List.length_drop]; omega
      have hd : d ≤ az.length := by omega
      have hkn : ((s.floor : Int) + d).toNat = s.floor + d := by omega
      have hdr : s.acts.drop (s.floor + d) = az.drop d := by rw [← haz, List.drop_drop]
      have htk : (s.acts.take (s.floor + d)).drop s.floor = az.take d := by rw [List.drop_take, haz]; congr 1; omega
      have hC : PoolC B w m s.refs s.cnt s.last az s.floor := by rw [← haz]; exact h.mem
      have hbd : ∀ j, j ≤ az.length → ∀ c ∈ backC s.cnt (az.drop j), 0 ≤ c ∧ c ≤ s.refs := fun j hj => by
        have := h.ok.bd (s.floor + j) (by omega) (by omega)
        rwa [← haz, List.drop_drop]
      have hpg : ∀ a ∈ az, 1 ≤ a.1 ∧ a.1 ≤ s.cnt.length ∧ (a.2 = 1 ∨ a.2 = -1) := by rw [← haz]; exact h.ok.pg
      have HUS := Lib.hid hus
      have hM' : PoolM B w m s.refs s.cnt s.last L (taL s.sts) az s.floor := by rw [← haz]; exact hM
      clear hus hub hM
      have c9 : ∀ W A' c' , PoolM B W { m with fA := A', fc := c' } s.refs s.cnt s.last L (taL s.sts) az s.floor → W.cell? ⟨m.p, 9, none⟩ = some (.slice m.aA az.length m.ac) := fun W A' c' hW => hW.c 9
      have hr := h.ok.refs
      have hlen := h.ok.len
      have hlast := h.ok.last
      have HH := Lib.hid h
      have HAZ := Lib.hid haz
      clear h haz
      go_enter Try.func29, Try.ntmps29
      go_wp2_with fail
      refine hmk.mono ?_
      rintro e w1 ⟨rfl, hE1⟩
      have hC1 := hC.ext hE1
      have c9' : w1.cell? ⟨m.p, 9, none⟩ = some (.slice m.aA az.length m.ac) := (hM'.ext hE1).c 9
      clear c10 hmk hC
      go_wp2
      clear c9'
      go_loopw [5] (fun kk wr => ∃ (j : Nat) (z : Int) (A' : Option Addr) (c' : Nat), d ≤ j ∧ j ≤ az.length ∧ z = (j : Int) - 1 ∧ kk = .int .i64 z ∧ PoolC B wr { m with fA := A', fc := c' } s.refs (backC s.cnt (az.drop j)) s.last az s.floor ∧ Moved m { m with fA := A', fc := c' } w wr) (fun kk _ => (intOf kk + 1).toNat)
      case atStart => exact ⟨az.length, _, m.fA, m.fc, hd, Nat.le_refl _, by rfl, rfl, by rw [List.drop_length]; exact hC1, Moved.of_ext hE1⟩
      case round =>
        clear hC1 hE1
        obtain ⟨j, z, A', c', hdj, hj, hz, rfl, hC, hmv⟩ := hrel
        rename World => v1
        by_cases hlt : d < j
        · obtain ⟨i, rfl⟩ : ∃ i, j = i + 1 := ⟨j - 1, by omega⟩
          obtain rfl : z = (i : Int) := by omega
          have hi : i < az.length := by omega
          obtain ⟨a, ha⟩ : ∃ a, az[i]? = some a := ⟨_, List.getElem?_eq_getElem hi⟩
          obtain ⟨a1, a2⟩ := a
          have hpa := hpg _ (List.mem_of_getElem? ha)
          have hst := back_step (cnt := s.cnt) ha
          have hbi := hbd (i + 1) (by omega)
          simp only at hpa hst
          have hCC := hC
          obtain ⟨L1, hM1, _⟩ := hCC
          obtain ⟨g, b, hg, hiac, hlac, q1, hA⟩ := hM1.actAt ha
          have q9 : v1.cell? ⟨m.p, 9, none⟩ = some (.slice (some ⟨g, 0, none⟩) az.length m.ac) := by rw [← hg]; exact hM1.c 9
          have q10 : v1.cell? ⟨m.p, 10, none⟩ = some (.int .i64 s.floor) := hM1.c 10
          have hbk := back_any hC (by rw [backC_len]; exact hlast) (by rw [backC_len]; exact hlen.2) (n := a1) (b := a2) hpa.1 (by rw [backC_len]; exact hpa.2.1) (by omega) (by
            have := cnt_at hbi (by omega) (a1 - 1).toNat
            exact ⟨this.1, by omega⟩) (by have := hmv.x.size; omega) hA
          have hiac' : i < m.ac := hiac
          have hlac' : az.length ≤ m.ac := hlac
          have hiacI : (i : Int) < m.ac := by omega
          clear hiac hlac
          clear hM1 hg hz hA
          go_wp2_with (go_at_call 65; refine hbk.mono ?_; rintro e w3 ⟨A2, c2, rfl, hC2, hmv2⟩)
          rw [← hst] at hC2
          go_roundw
          case rel => exact ⟨i, _, A2, c2, by omega, by omega, rfl, by go_num, hC2, hmv.trans hmv2⟩
          case measure => first | (simp [intOf]; done) | (simp [intOf]; omega)
        · obtain rfl : d = j := by omega
          obtain ⟨L1, hM1, hF1⟩ := hC
          have hbd1 := hbd d hj
          obtain ⟨cn, hcn⟩ : ∃ l, backC s.cnt (az.drop d) = l := ⟨_, rfl⟩
          rw [hcn] at hM1 hF1
          obtain ⟨ta, hta⟩ : ∃ l, taL (stsOf cn s.last) = l := ⟨_, rfl⟩
          rw [hta] at hM1
          have HCN := Lib.hid hcn
          have HTA := Lib.hid hta
          clear hcn hta hbd
          obtain ⟨m1, hm1⟩ : ∃ m1 : Pm, { m with fA := A', fc := c' } = m1 := ⟨_, rfl⟩
          have hp1 : m1.p = m.p := by rw [← hm1]
          have hA1 : m1.aA = m.aA ∧ m1.ac = m.ac := by rw [← hm1]; exact ⟨rfl, rfl⟩
          rw [hm1] at hM1 hmv
          clear hm1
          have q10 : v1.cell? ⟨m.p, 10, none⟩ = some (.int .i64 s.floor) := by rw [← hp1]; exact hM1.c 10
          go_wp2
          refine wp_region_rg (Exc fun q _ => q = m.p) (rel_exc _) (fun V => PoolM B V m1 s.refs cn s.last L1 ta az s.floor) [0, 1, 2, 3, 4, 5, 6, 7, 8, 9, 10, 11, 12, 13, 14] (fun _ => none) (fun i => match i with
            | 14 => some fun _ _ V => PoolM B V { m1 with bs := m1.bs.take d } s.refs cn s.last L1 ta (az.take d) s.floor
            | _ => none) (fun i => match i with | 4 => true | 9 => true | _ => false) (by kernel_rfl) (by kernel_rfl) (fun _ _ h he => h.ext he) (hM1.ext (Below.refl _ _).drew) (fun W N' hW hF0 hN' => ?_)
          have hEW : Exc (fun q _ => q = m.p) W W := exc_refl _ _
          have y10 : ∀ w', Ext W w' → w'.cell? ⟨m.p, 10, none⟩ = some (.int .i64 s.floor) := fun w' hh => by rw [← hp1]; exact (hF0.ext hh).c 10
          have hle : az.length ≤ m.ac ∧ (m.aA = none → m.ac = 0) := by
            rw [← hA1.1, ← hA1.2]
            rcases hF0.ac.2 with ⟨hv, h0⟩ | ⟨g, cap, cur, hv, _, _, hle, _⟩
            · injection hv with e1 e2 e3
              exact ⟨by omega, fun _ => e3⟩
            · injection hv with e1 e2 e3
              exact ⟨by omega, fun e => by rw [e1] at e; cases e⟩
          have hmc : m.ac ≤ 9223372036854775807 := by
            rw [← hA1.2]
            rcases hF0.ac.2 with ⟨hv, h0⟩ | ⟨g, cap, cur, hv, _, _, _, hmx, _⟩
            · injection hv with e1 e2 e3
              omega
            · injection hv with e1 e2 e3
              unfold maxLen at hmx
              omega
          have hX7 : ∀ V, PoolM B V m1 s.refs cn s.last L1 ta az s.floor → PoolM B (V.setCell ⟨m.p, 9, none⟩ (.slice m.aA d m.ac)) { m1 with bs := m1.bs.take d } s.refs cn s.last L1 ta (az.take d) s.floor := fun V hV => by
            have hlt : (az.take d).length = d := by rw [List.length_take]; omega
            have hro : V.ownsRow B 81 1 (.slice m1.aA (az.take d).length m1.ac) (az.take d).length ((m1.bs.take d).map actV) := by
              have hac := hV.ac
              obtain ⟨t, ht⟩ : ∃ t, az.length = d + t := ⟨az.length - d, by omega⟩
              rw [ht] at hac
              have := own_prefix hac
              rw [hlt, List.map_take]
              simpa using this
            have := hV.setActs (A := m1.aA) (c := m1.ac) (az' := az.take d) (bs' := m1.bs.take d) hro (fun i a b ha hb => by
              rw [List.getElem?_take] at ha hb
              split at ha
              · rename_i hid
                rw [if_pos hid] at hb
                exact hV.cl i a b ha hb
              · cases ha) (fun b hb => hV.sep b (List.mem_of_mem_take hb)) (fun b hb => hV.geB b (List.mem_of_mem_take hb))
            have e : V.setCell ⟨m1.p, 9, none⟩ (.slice m1.aA d m1.ac) = V.setCell ⟨m.p, 9, none⟩ (.slice m.aA d m.ac) := by rw [hp1, hA1.1, hA1.2]
            rw [hlt] at this
            rw [← e]
            exact this
          have y9 : ∀ w', Ext W w' → w'.cell? ⟨m.p, 9, none⟩ = some (.slice m.aA az.length m.ac) := fun w' hh => by rw [← hp1, ← hA1.1, ← hA1.2]; exact (hF0.ext hh).c 9
          have hdI : (d : Int) ≤ (az.length : Int) := by omega
          have HP1 := Lib.hid hp1
          have HDR := Lib.hid hdr
          have HTK := Lib.hid htk
          have HKN := Lib.hid hkn
          clear hA1 hp1 q10 hdr htk hkn
          repeat (first | (apply wpR_one; (case ho => (simp only [List.getElem?_toArray, List.getElem?_cons_succ, List.getElem?_cons_zero]; try exact rfl)); (case hw => rfl); (case hl => rfl); (case hsp => rfl); (case he => rfl); (case hv => (intro w' hw'; (try (have hw2 := Ext.trans hEW hw')); (try (have hw3 := Exc.trans hEW hw')); (try (have hw4 := Exk.trans hEW hw')); (try (have hw5 := Mrk.trans hEW hw')); go_simp; exact rfl)); (case hw0 => (first | exact Below.refl _ _ | exact Exc.of_ext (Below.refl _ _) | exact Exk.of_ext (Below.refl _ _) | exact Mrk.of_ext (Below.refl _ _))); simp only [Act.put, List.setIfInBounds_toArray, List.set_cons_succ, List.set_cons_zero]) | (apply wpR_early; (case ho => (simp only [List.getElem?_toArray, List.getElem?_cons_succ, List.getElem?_cons_zero]; try exact rfl)); (case hw => rfl); (case hl => rfl); (case hsp => rfl); (case he => rfl); (case hv => (intro w' hw'; (try have hw2 := Ext.trans hEW hw'); go_simp; exact rfl)); simp only [Act.put, List.setIfInBounds_toArray, List.set_cons_succ, List.set_cons_zero]) | (apply wpR_pass; (case ho => (simp only [List.getElem?_toArray, List.getElem?_cons_succ, List.getElem?_cons_zero]; try exact rfl)); (case hw => rfl); (case hl => rfl); simp only [Act.put, List.setIfInBounds_toArray, List.set_cons_succ, List.set_cons_zero]))
          have iw : IntKind.i64.wrap ((s.floor : Int) + (d : Int) - (s.floor : Int)) = (d : Int) := by rw [IntWalk.i64_in _ (by omega)]; omega
          rw [iw]
          clear iw
          have hdm : d ≤ m.ac := by omega
          have hdmI : (d : Int) ≤ (m.ac : Int) := by omega
          repeat (first | (apply wpR_one; (case ho => (simp only [List.getElem?_toArray, List.getElem?_cons_succ, List.getElem?_cons_zero]; try exact rfl)); (case hw => rfl); (case hl => rfl); (case hsp => rfl); (case he => rfl); (case hv => (intro w' hw'; (try (have hw2 := Ext.trans hEW hw')); (try (have hw3 := Exc.trans hEW hw')); (try (have hw4 := Exk.trans hEW hw')); (try (have hw5 := Mrk.trans hEW hw')); go_simp; exact rfl)); (case hw0 => (first | exact Below.refl _ _ | exact Exc.of_ext (Below.refl _ _) | exact Exk.of_ext (Below.refl _ _) | exact Mrk.of_ext (Below.refl _ _))); simp only [Act.put, List.setIfInBounds_toArray, List.set_cons_succ, List.set_cons_zero]) | (apply wpR_early; (case ho => (simp only [List.getElem?_toArray, List.getElem?_cons_succ, List.getElem?_cons_zero]; try exact rfl)); (case hw => rfl); (case hl => rfl); (case hsp => rfl); (case he => rfl); (case hv => (intro w' hw'; (try have hw2 := Ext.trans hEW hw'); go_simp; exact rfl)); simp only [Act.put, List.setIfInBounds_toArray, List.set_cons_succ, List.set_cons_zero]) | (apply wpR_pass; (case ho => (simp only [List.getElem?_toArray, List.getElem?_cons_succ, List.getElem?_cons_zero]; try exact rfl)); (case hw => rfl); (case hl => rfl); simp only [Act.put, List.setIfInBounds_toArray, List.set_cons_succ, List.set_cons_zero]))
          refine wpR_late (by ((simp only [List.getElem?_toArray, List.getElem?_cons_succ, List.getElem?_cons_zero]; try exact rfl))) _ rfl rfl (fun V v => fun _ _ h he => PoolM.ext h he) (fun V V' h => rfl) (fun w' hw' hK hF => ?_) (fun v hv => ?_)
          · have hF2 : PoolM B w' m1 s.refs cn s.last L1 ta az s.floor := hF
            have f4 := hF2.f 9
            have c5 := hF2.c 9
            rw [HP1.out] at f4 c5
            simp only [poolC, List.getElem?_toArray, List.getElem?_cons_zero, List.getElem?_cons_succ] at c5
            have h7 := hX7 _ hF2
            clear hF hF2 y9 y10
            unfold opAt
            go_simp
            exact ⟨undef, rfl, setCell_excp _ _ _ _, h7⟩
          clear hv
          simp only [Act.put, List.setIfInBounds_toArray, List.set_cons_succ, List.set_cons_zero]
          apply wpR_nil
          apply hN'
          intro w7 hE7 hK hF
          have h7 : PoolM B w7 { m1 with bs := m1.bs.take d } s.refs cn s.last L1 ta (az.take d) s.floor := hF
          have hmv7 : Moved m { m1 with bs := m1.bs.take d } w w7 := by
            have hx : Exc (fun q _ => m1.foot q) v1 w7 := (Exc.of_ext hW).trans ⟨hE7.os, hE7.tape, hE7.output, hE7.size, fun q o ho hn => hE7.block q o ho (fun e => hn (.inl (by rw [HP1.out]; exact e)))⟩
            have hm12 := hmv.trans (⟨rfl, hx, fun _ h => .inl h⟩ : Moved m1 m1 v1 w7)
            refine ⟨hm12.p, hm12.x, ?_⟩
            rintro q (hq | hq | hq | hq | hq | hq | ⟨b, hb, hq⟩)
            · exact hmv.foot q (.inl hq)
            · exact hmv.foot q (.inr (.inl hq))
            · exact hmv.foot q (.inr (.inr (.inl hq)))
            · exact hmv.foot q (.inr (.inr (.inr (.inl hq))))
            · exact hmv.foot q (.inr (.inr (.inr (.inr (.inl hq)))))
            · exact hmv.foot q (.inr (.inr (.inr (.inr (.inr (.inl hq))))))
            · exact hmv.foot q (.inr (.inr (.inr (.inr (.inr (.inr ⟨b, List.mem_of_mem_take hb, hq⟩))))))
          have HS7 : Hid (PoolS B N w7 { m1 with bs := m1.bs.take d } (s.undoS ((s.floor : Int) + d))) := Lib.hid (by
            refine ⟨hok', ?_⟩
            have e1 : s.undoS ((s.floor : Int) + d) = { s with cnt := cn, acts := s.acts.take (s.floor + d) } := by
              rw [HUS.out, HKN.out, HDR.out, HCN.out]
            rw [e1]
            refine ⟨L1, ?_, hF1⟩
            show PoolM B w7 _ s.refs cn s.last L1 (taL (stsOf cn s.last)) ((s.acts.take (s.floor + d)).drop s.floor) s.floor
            rw [HTK.out, HTA.out]
            exact h7)
          clear hK hN' hF y9 y10 hX7 hEW hE7 hW hF0 hM1 h7 hmv
          go_wp2
          go_ret
          first | exact ⟨_, rfl, HS7.out, hmv7⟩ | exact ⟨rfl, _, HS7.out, hmv7⟩
    · have hub : s.undoB k = false := decide_eq_false (fun e => h2 e.2)
      have hus : s.undoS k = s := if_neg (by rw [hub]; decide)
      rw [hub, hus]
      go_enter Try.func29, Try.ntmps29
      go_wp2_with fail
      refine hmk.mono ?_
      rintro e w1 ⟨rfl, hE1⟩
      go_wp2
      go_ret
      exact ⟨m, rfl, h.ext hE1, Moved.of_ext hE1⟩
  · have hub : s.undoB k = false := decide_eq_false (fun e => h1 e.1)
    have hus : s.undoS k = s := if_neg (by rw [hub]; decide)
    rw [hub, hus]
    go_enter Try.func29, Try.ntmps29
    go_wp2
    go_ret
    first | exact ⟨m, rfl, h, Moved.refl _ _⟩ | exact ⟨rfl, m, h, Moved.refl _ _⟩
end Go.Proofs.Ytaalhicdeibodaa
