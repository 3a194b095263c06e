/- Layer 10: the document's Alloc, Inc, Dec, Undo, Settle. No condition but the sizes. -/
import Derived.Test.YtaalhicdeibodaaPk
namespace Go.Proofs.Ytaalhicdeibodaa
open Go.RowKit Go.Proofs Go.Shelf
set_option linter.unusedVariables false
attribute [local go_sem] Oper.semAt_some
structure RefS (B N : Nat) (w : World) (r : Rm) (s : Pl) : Prop where
  ok : s.Ok N
  mem : RefM B w r s.refs s.cnt s.last s.acts s.floor
section
variable {B N : Nat} {w : World} {r : Rm} {s : Pl}
theorem RefS.ext {w' : World} (h : RefS B N w r s) (hx : Ext w w') : RefS B N w' r s := ⟨h.ok, h.mem.ext hx⟩
theorem RefS.exc {D : Nat → Obj → Prop} {w' : World} (h : RefS B N w r s) (hx : Exc D w w') (hd : ∀ q o, r.foot q → ¬ D q o) : RefS B N w' r s := ⟨h.ok, h.mem.exc hx hd⟩
theorem RefS.foot_lt (h : RefS B N w r s) {q : Nat} (hq : r.foot q) : B ≤ q ∧ q < w.heap.size := h.mem.foot_lt hq
theorem RefS.mono {M : Nat} (h : RefS B N w r s) (hm : N ≤ M) : RefS B M w r s := ⟨h.ok.mono hm, h.mem⟩
theorem rturn_pool (h : RefS B N w r s) {n b : Int} (h1 : 1 ≤ n) (h2 : n ≤ s.cnt.length) (hb : b = 1 ∨ b = -1) (hc : 0 ≤ s.cnt.getD (n - 1).toNat 0 + b ∧ s.cnt.getD (n - 1).toNat 0 + b ≤ s.refs) (hN : N ≤ 100000) (hBw : B ≤ w.heap.size) :
    Calls Try.prog 67 #[.pointer (some ⟨r.p, 0, none⟩), .int .i64 n, .int .i64 b] w fun e w' => ∃ r', e = .returned (.tuple #[]) ∧ RefS B (N + 1) w' r' (s.act n b) ∧ RMoved r r' w w' := by
  have hok := h.ok
  have hac := hok.acts
  have hr := hok.refs
  obtain ⟨k, rfl⟩ : ∃ k : Nat, n = (k : Int) + 1 := ⟨(n - 1).toNat, by omega⟩
  have hkn : ((k : Int) + 1 - 1).toNat = k := by omega
  have hcb := cnt_at hok.cnt (by omega) k
  have hok' := hok.act h1 h2 hb hc
  rw [hkn] at hc
  refine (rturn_any h.mem hok.len.2 (by omega) (by omega) ⟨by omega, by omega⟩ hBw (by omega)).mono ?_
  rintro e w' ⟨A', c', rfl, hM, hmv⟩
  exact ⟨_, rfl, ⟨hok', hM⟩, hmv⟩
set_option maxHeartbeats 1000000 in
theorem ralloc_any (h : RefS B N w r s) (hN : N ≤ 100000) (hBw : B ≤ w.heap.size) :
    Calls Try.prog 50 #[.pointer (some ⟨r.p, 0, none⟩)] w fun e w' => ∃ r', e = .returned (.tuple #[.int .i64 (lowF s.sts), .int .i64 s.allocE]) ∧ RefS B (N + 1) w' r' s.allocS ∧ RMoved r r' w w' := by
  have hok := h.ok
  have hsl : s.sts.length = s.cnt.length := sts_len hok.last
  have c1 : w.cell? ⟨r.p, 1, none⟩ = some (.slice r.cA s.cnt.length r.cc) := h.mem.c 1
  have hcl := hok.len
  go_enter Try.func50, Try.ntmps50
  go_wp2
  go_loopw [4] (fun i wr => ∃ k : Nat, k ≤ s.cnt.length ∧ i = .int .i64 ((k : Int) + 1) ∧ Ext w wr ∧ Hid (∀ j, j < k → s.sts.getD j 0 ≠ 1)) (fun i _ => s.cnt.length + 1 - (intOf i).toNat)
  case atStart => exact ⟨0, Nat.zero_le _, rfl, Below.refl _ _, Lib.hid fun j hj => by omega⟩
  case round =>
    obtain ⟨k, hk, rfl, hE, HB⟩ := hrel
    have h2 := h.ext hE
    have c1 : wr.cell? ⟨r.p, 1, none⟩ = some (.slice r.cA s.cnt.length r.cc) := h2.mem.c 1
    by_cases hkl : k < s.cnt.length
    · have hst := rstate_any h2.mem hok.last hok.len.2 (fun c hc => (hok.cnt c hc).1) ((k : Int) + 1)
      have est : stAt s.cnt s.last ((k : Int) + 1) = s.sts.getD k 0 := by
        rw [stAt_eq hok.last, if_pos ⟨by omega, by omega⟩, show ((k : Int) + 1 - 1).toNat = k by omega]
      rw [est] at hst
      by_cases h1 : s.sts.getD k 0 = 1
      · have hlo := lowF_is (sts := s.sts) (by omega) h1 HB.out
        have hlo0 : ¬ lowF s.sts = 0 := by omega
        have hw := hok.low hlo0
        have ha1 : s.allocS = s.act (lowF s.sts) 1 := if_neg hlo0
        have ha2 : s.allocE = 0 := if_neg hlo0
        have htu := rturn_pool h2 hw.1.1 hw.1.2 (.inl rfl) (by rw [hw.2.1]; have := hok.refs; omega) hN (by have := hE.size; omega)
        rw [← ha1, hlo] at htu
        rw [h1] at hst
        have HL := Lib.hid hlo
        have HA2 := Lib.hid ha2
        clear hw hlo hlo0 h1 est ha1 ha2
        go_wp2_with fail
        refine hst.mono ?_
        rintro e w2 ⟨rfl, rfl⟩
        go_wp2_with fail
        refine htu.mono ?_
        rintro e w3 ⟨r', rfl, q1, q2⟩
        clear htu hst c1
        go_wp2
        refine bodyPost_ret (results_tmp2 rfl _ _ _) rfl ?_
        refine ⟨r', ?_, q1, (RMoved.of_ext hE).trans q2⟩
        rw [HL.out, HA2.out]
        rfl
      · have HB2 : Hid (∀ j, j < k + 1 → s.sts.getD j 0 ≠ 1) := Lib.hid (fun j hj => by
          by_cases e : j = k
          · rw [e]; exact h1
          · exact HB.out j (by omega))
        obtain ⟨z, hz⟩ : ∃ z, s.sts.getD k 0 = z := ⟨_, rfl⟩
        rw [hz] at hst h1
        clear hz est
        go_wp2_with fail
        refine hst.mono ?_
        rintro e w2 ⟨rfl, rfl⟩
        clear hst
        go_wp2
        go_roundw
        case rel => exact ⟨k + 1, by omega, by go_num, hE, HB2⟩
        case measure => simp [intOf]; omega
    · obtain rfl : k = s.cnt.length := by omega
      have hlo := lowF_none (sts := s.sts) (fun j hj => HB.out j (by omega))
      have ha1 : s.allocS = s := if_pos hlo
      have ha2 : s.allocE = 12 := if_pos hlo
      have HL := Lib.hid hlo
      have HA1 := Lib.hid ha1
      have HA2 := Lib.hid ha2
      clear hlo ha1 ha2
      go_wp2
      refine bodyPost_ret (results_tmp2 rfl _ _ _) rfl ?_
      refine ⟨r, ?_, ?_, RMoved.of_ext hE⟩
      · rw [HL.out, HA2.out]
        rfl
      · rw [HA1.out]
        exact h2.mono (Nat.le_succ _)
theorem rinc_any (h : RefS B N w r s) (hN : N ≤ 100000) (hBw : B ≤ w.heap.size) (n : Int) :
    Calls Try.prog 51 #[.pointer (some ⟨r.p, 0, none⟩), .int .i64 n] w fun e w' => ∃ r', e = .returned (.int .i64 (s.incE n)) ∧ RefS B (N + 1) w' r' (s.incS n) ∧ RMoved r r' w w' := by
  have hok := h.ok
  have hcn := rcount_any h.mem hok.len.2 n
  have hcb := cntAt_bd hok n
  have hr := hok.refs
  unfold Pl.incS Pl.incE
  by_cases e0 : cntAt s.cnt n = 0
  · rw [if_pos e0, if_neg (by decide)]
    rw [e0] at hcn
    clear e0
    go_enter Try.func51, Try.ntmps51
    go_wp2_with fail
    refine hcn.mono ?_
    rintro e w2 ⟨rfl, rfl⟩
    go_wp2
    go_ret
    exact ⟨r, rfl, h.mono (Nat.le_succ _), RMoved.refl _ _⟩
  · have c0 : ∀ W, Ext w W → W.cell? ⟨r.p, 0, none⟩ = some (.int .i64 s.refs) := fun W hW => (h.mem.ext hW).c 0
    have hcn2 := fun W (hW : Ext w W) => rcount_any (h.mem.ext hW) hok.len.2 n
    have hact := fun W (hW : Ext w W) (b1 : 1 ≤ n) (b2 : n ≤ s.cnt.length) b3 => rturn_pool (h.ext hW) b1 b2 (.inl rfl) b3 hN (by have := hW.size; omega)
    have hin := cntAt_in e0
    rw [if_neg e0]
    obtain ⟨z, hz⟩ : ∃ z, cntAt s.cnt n = z := ⟨_, rfl⟩
    rw [hz] at hcn hcn2 hcb e0 hin ⊢
    clear hz
    obtain ⟨E, hEE⟩ : ∃ E, (if z = s.refs then (13 : Int) else 0) = E := ⟨_, rfl⟩
    rw [hEE]
    obtain ⟨S, hSS⟩ : ∃ S, (if E = 0 then s.act n 1 else s) = S := ⟨_, rfl⟩
    rw [hSS]
    have HEE := Lib.hid hEE
    have HSS := Lib.hid hSS
    have HIN := Lib.hid hin
    clear hEE hSS hin
    go_enter Try.func51, Try.ntmps51
    go_wp2_with fail
    refine hcn.mono ?_
    rintro e w2 ⟨rfl, rfl⟩
    go_wp2
    refine wp_region_rg Ext rel_ext (fun _ => True) [0, 1, 2, 3, 4, 5, 6, 7] (fun i => match i with | 2 => some fun _ v _ => v = .int .i64 z | _ => none) (fun _ => none) (fun _ => false) (by kernel_rfl) (by kernel_rfl) (fun _ _ _ _ => trivial) trivial (fun W N hW _ hN => ?_)
    have hEW := hW
    have c0' : ∀ w', Ext W w' → w'.cell? ⟨r.p, 0, none⟩ = some (.int .i64 s.refs) := fun w' hh => c0 w' (hW.trans hh)
    repeat (first | (apply wpR_one; (case ho => (simp only [List.getElem?_toArray, List.getElem?_cons_succ, List.getElem?_cons_zero]; try exact rfl)); (case hw => rfl); (case hl => rfl); (case hsp => rfl); (case he => rfl); (case hv => (intro w' hw'; (try (have hw2 := Ext.trans hEW hw')); (try (have hw3 := Exc.trans hEW hw')); (try (have hw4 := Exk.trans hEW hw')); (try (have hw5 := Mrk.trans hEW hw')); go_simp; exact rfl)); (case hw0 => (first | exact Below.refl _ _ | exact Exc.of_ext (Below.refl _ _) | exact Exk.of_ext (Below.refl _ _) | exact Mrk.of_ext (Below.refl _ _))); simp only [Act.put, List.setIfInBounds_toArray, List.set_cons_succ, List.set_cons_zero]) | (apply wpR_early; (case ho => (simp only [List.getElem?_toArray, List.getElem?_cons_succ, List.getElem?_cons_zero]; try exact rfl)); (case hw => rfl); (case hl => rfl); (case hsp => rfl); (case he => rfl); (case hv => (intro w' hw'; (try have hw2 := Ext.trans hEW hw'); go_simp; exact rfl)); simp only [Act.put, List.setIfInBounds_toArray, List.set_cons_succ, List.set_cons_zero]) | (apply wpR_pass; (case ho => (simp only [List.getElem?_toArray, List.getElem?_cons_succ, List.getElem?_cons_zero]; try exact rfl)); (case hw => rfl); (case hl => rfl); simp only [Act.put, List.setIfInBounds_toArray, List.set_cons_succ, List.set_cons_zero]))
    refine wpR_new (by ((simp only [List.getElem?_toArray, List.getElem?_cons_succ, List.getElem?_cons_zero]; try exact rfl))) _ rfl rfl rfl (fun V v => Lasts.pure) (fun V V' h => rfl) (fun w' hw' hK => ?_) (fun z hz => ?_)
    · have hc3 := hcn2 w' (hW.trans hw')
      unfold opAt; go_simp; refine upAt_enter ?_
      refine hc3.mono ?_
      rintro e w5 ⟨rfl, rfl⟩
      exact ⟨_, rfl, Below.refl _ _, rfl⟩
    obtain ⟨_, _, _, rfl⟩ := hz
    simp only [Act.put, List.setIfInBounds_toArray, List.set_cons_succ, List.set_cons_zero]
    repeat (first | (apply wpR_one; (case ho => (simp only [List.getElem?_toArray, List.getElem?_cons_succ, List.getElem?_cons_zero]; try exact rfl)); (case hw => rfl); (case hl => rfl); (case hsp => rfl); (case he => rfl); (case hv => (intro w' hw'; (try (have hw2 := Ext.trans hEW hw')); (try (have hw3 := Exc.trans hEW hw')); (try (have hw4 := Exk.trans hEW hw')); (try (have hw5 := Mrk.trans hEW hw')); go_simp; exact rfl)); (case hw0 => (first | exact Below.refl _ _ | exact Exc.of_ext (Below.refl _ _) | exact Exk.of_ext (Below.refl _ _) | exact Mrk.of_ext (Below.refl _ _))); simp only [Act.put, List.setIfInBounds_toArray, List.set_cons_succ, List.set_cons_zero]) | (apply wpR_early; (case ho => (simp only [List.getElem?_toArray, List.getElem?_cons_succ, List.getElem?_cons_zero]; try exact rfl)); (case hw => rfl); (case hl => rfl); (case hsp => rfl); (case he => rfl); (case hv => (intro w' hw'; (try have hw2 := Ext.trans hEW hw'); go_simp; exact rfl)); simp only [Act.put, List.setIfInBounds_toArray, List.set_cons_succ, List.set_cons_zero]) | (apply wpR_pass; (case ho => (simp only [List.getElem?_toArray, List.getElem?_cons_succ, List.getElem?_cons_zero]; try exact rfl)); (case hw => rfl); (case hl => rfl); simp only [Act.put, List.setIfInBounds_toArray, List.set_cons_succ, List.set_cons_zero]))
    apply wpR_nil
    apply hN
    intro w5 hE5 hK _
    have hE := hW.trans hE5
    clear hK hN hEW hE5 hW c0' c0 hcn2 hcn
    have hs5 := hE.size
    by_cases e1 : z = s.refs
    · have b1 : s.refs ≤ z := by omega
      have hE13 : E = 13 := by rw [← HEE.out, if_pos e1]
      have hS13 : S = s := by rw [← HSS.out, hE13, if_neg (by decide)]
      subst hE13 hS13
      clear e1
      go_wp2
      go_ret
      first | exact ⟨r, rfl, (h.ext hE).mono (Nat.le_succ _), RMoved.of_ext hE⟩ | exact ⟨rfl, r, (h.ext hE).mono (Nat.le_succ _), RMoved.of_ext hE⟩
    · have b1 : ¬ s.refs ≤ z := by omega
      have hE13 : E = 0 := by rw [← HEE.out, if_neg e1]
      have hS13 : S = s.act n 1 := by rw [← HSS.out, hE13, if_pos rfl]
      subst hE13 hS13
      obtain ⟨a, b, c⟩ := HIN.out
      have hac2 := hact w5 hE a b (by omega)
      clear c e1 hact HIN
      go_wp2_with fail
      refine hac2.mono ?_
      rintro e w6 ⟨r', rfl, q1, q2⟩
      clear hac2
      go_wp2
      go_ret
      first | exact ⟨r', rfl, q1, (RMoved.of_ext hE).trans q2⟩ | exact ⟨rfl, r', q1, (RMoved.of_ext hE).trans q2⟩
theorem rdec_any (h : RefS B N w r s) (hN : N ≤ 100000) (hBw : B ≤ w.heap.size) (n : Int) :
    Calls Try.prog 52 #[.pointer (some ⟨r.p, 0, none⟩), .int .i64 n] w fun e w' => ∃ r', e = .returned (.tuple #[.int .i64 (s.decN n), .int .i64 (s.decE n)]) ∧ RefS B (N + 1) w' r' (s.decS n) ∧ RMoved r r' w w' := by
  have hok := h.ok
  have hcn := rcount_any h.mem hok.len.2 n
  have hcb := cntAt_bd hok n
  unfold Pl.decN Pl.decS Pl.decE
  by_cases e0 : cntAt s.cnt n = 0
  · rw [if_pos e0, if_pos e0]
    rw [e0] at hcn ⊢
    clear e0
    go_enter Try.func52, Try.ntmps52
    go_wp2_with fail
    refine hcn.mono ?_
    rintro e w2 ⟨rfl, rfl⟩
    go_wp2
    refine bodyPost_ret (results_tmp2 rfl _ _ _) rfl ?_
    exact ⟨r, rfl, h.mono (Nat.le_succ _), RMoved.refl _ _⟩
  · rw [if_neg e0, if_neg e0]
    obtain ⟨a, b, c⟩ := cntAt_in e0
    have hact := rturn_pool h a b (.inr rfl) (by omega) hN hBw
    generalize cntAt s.cnt n = z at *
    clear c
    go_enter Try.func52, Try.ntmps52
    go_wp2_with fail
    refine hcn.mono ?_
    rintro e w2 ⟨rfl, rfl⟩
    go_wp2_with fail
    refine hact.mono ?_
    rintro e w2 ⟨r', rfl, h2, h3⟩
    have hcn2 := rcount_any h2.mem h2.ok.len.2 n
    rw [h3.p] at hcn2
    clear hact
    go_wp2_with fail
    refine hcn2.mono ?_
    rintro e w3 ⟨rfl, rfl⟩
    go_wp2
    refine bodyPost_ret (results_tmp2 rfl _ _ _) rfl ?_
    exact ⟨r', rfl, h2, h3⟩
end
end Go.Proofs.Ytaalhicdeibodaa
