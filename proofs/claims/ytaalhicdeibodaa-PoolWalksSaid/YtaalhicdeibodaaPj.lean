/- Layer 10: Min, Max, Load. No condition but the sizes. -/
import Derived.Test.YtaalhicdeibodaaPi
namespace Go.Proofs.Ytaalhicdeibodaa
open Go.RowKit Go.Proofs Go.Shelf
set_option linter.unusedVariables false
attribute [local go_sem] Oper.semAt_some
theorem PoolM.low {B B' : Nat} {w : World} {m : Pm} {refs : Int} {cnt : List Int} {last : List Bool} {L : List Rn} {ta : List Int} {az : List (Int × Int)} {fl : Int} (h : PoolM B w m refs cnt last L ta az fl) (hB : B' ≤ B) : PoolM B' w m refs cnt last L ta az fl :=
  ⟨h.hd, own_mono h.cn hB, own_mono h.la hB, ⟨h.fr.hd, own_mono h.fr.row hB, h.fr.wf, h.fr.bd⟩, own_mono h.ac hB, h.cl, h.sep, Nat.le_trans hB h.geP, Nat.le_trans hB h.geF, fun b hb => ⟨Nat.le_trans hB (h.geB b hb).1, Nat.le_trans hB (h.geB b hb).2.1, Nat.le_trans hB (h.geB b hb).2.2⟩, h.tl⟩
theorem PoolS.low {B B' N : Nat} {w : World} {m : Pm} {s : Pl} (h : PoolS B N w m s) (hB : B' ≤ B) : PoolS B' N w m s := by
  obtain ⟨L, hM, hF⟩ := h.mem
  exact ⟨h.ok, L, hM.low hB, hF⟩
def minTo (l : List Int) (k : Nat) (z : Int) : Prop := (∀ j, j < k → z ≤ l.getD j 0) ∧ ∃ j, j < k ∧ z = l.getD j 0
theorem minTo.step {l : List Int} {k : Nat} {z : Int} (h : minTo l k z) (hk : ¬ l.getD k 0 < z) : minTo l (k + 1) z := by
  obtain ⟨hA, j0, hj0, hz⟩ := h
  refine ⟨fun j hj => ?_, j0, by omega, hz⟩
  by_cases e : j = k
  · rw [e]; omega
  · exact hA j (by omega)
theorem minTo.new {l : List Int} {k : Nat} {z : Int} (h : minTo l k z) (hk : l.getD k 0 < z) : minTo l (k + 1) (l.getD k 0) := by
  obtain ⟨hA, j0, hj0, hz⟩ := h
  refine ⟨fun j hj => ?_, k, by omega, rfl⟩
  by_cases e : j = k
  · rw [e]; omega
  · have := hA j (by omega); omega
theorem min_any {w : World} {A : Option Addr} {c : Nat} {l : List Int} (hr : NLi w A c l) (h1 : 1 ≤ l.length) (h6 : l.length ≤ 65536) :
    Calls Try.prog 61 #[.slice A l.length c] w fun e w' => ∃ z, e = .returned (.int .i64 z) ∧ Ext w w' ∧ minTo l l.length z := by
  obtain ⟨b, off, rfl, hc⟩ := hr.rd (by omega)
  have hle := hr.le
  have hat : ∀ k, k < l.length → ∀ W, Ext w W → W.cell? ⟨b, off + k, none⟩ = some (.int .i64 (l.getD k 0)) := fun k hk W hW => by
    refine hW.cell ?_
    rw [hc k _ (List.getElem?_eq_getElem hk)]
    simp [List.getD_eq_getElem?_getD, List.getElem?_eq_getElem hk]
  have q0 := hat 0 (by omega) w (Below.refl _ _)
  have hn1 : ¬ (l.length : Int) < 1 := by omega
  have hc0 : 0 < c := by omega
  have h00 : minTo l 1 (l.getD 0 0) := ⟨fun j hj => by rw [show j = 0 by omega]; exact Int.le_refl _, 0, by omega, rfl⟩
  rw [Nat.add_zero] at q0
  generalize l.getD 0 0 = z0 at q0 h00
  clear hc hr
  have hl0 : 0 < l.length := by omega
  go_enter Try.func61, Try.ntmps61
  go_wp2
  clear q0
  go_loopw [3, 4] (fun zv i wr => ∃ (k : Nat) (z : Int), 1 ≤ k ∧ k ≤ l.length ∧ i = .int .i64 k ∧ zv = .int .i64 z ∧ Ext w wr ∧ minTo l k z) (fun _ i _ => l.length - (intOf i).toNat)
  case atStart => exact ⟨1, z0, Nat.le_refl _, h1, rfl, rfl, Below.refl _ _, h00⟩
  case round =>
    clear h00
    obtain ⟨k, z, hk1, hk, rfl, rfl, hE, hM⟩ := hrel
    by_cases hkl : k < l.length
    · have q1 := hat k hkl wr hE
      have hs := hM.step
      have hn := hM.new
      generalize l.getD k 0 = u at q1 hs hn
      clear hat
      have hkc : k < c := by omega
      by_cases hlt : u < z
      · have hM2 := hn hlt
        clear hs hn
        go_wp2
        go_roundw
        case rel => exact ⟨k + 1, u, by omega, by omega, by go_num, by go_num, hE, hM2⟩
        case measure => simp [intOf]; omega
      · have hM2 := hs hlt
        clear hs hn
        go_wp2
        go_roundw
        case rel => exact ⟨k + 1, z, by omega, by omega, by go_num, by go_num, hE, hM2⟩
        case measure => simp [intOf]; omega
    · obtain rfl : k = l.length := by omega
      go_wp2
      go_ret
      exact ⟨z, rfl, hE, hM⟩
def maxTo (l : List Int) (k : Nat) (z : Int) : Prop := (∀ j, j < k → l.getD j 0 ≤ z) ∧ ∃ j, j < k ∧ z = l.getD j 0
theorem maxTo.step {l : List Int} {k : Nat} {z : Int} (h : maxTo l k z) (hk : ¬ z < l.getD k 0) : maxTo l (k + 1) z := by
  obtain ⟨hA, j0, hj0, hz⟩ := h
  refine ⟨fun j hj => ?_, j0, by omega, hz⟩
  by_cases e : j = k
  · rw [e]; omega
  · exact hA j (by omega)
theorem maxTo.new {l : List Int} {k : Nat} {z : Int} (h : maxTo l k z) (hk : z < l.getD k 0) : maxTo l (k + 1) (l.getD k 0) := by
  obtain ⟨hA, j0, hj0, hz⟩ := h
  refine ⟨fun j hj => ?_, k, by omega, rfl⟩
  by_cases e : j = k
  · rw [e]; omega
  · have := hA j (by omega); omega
theorem max_any {w : World} {A : Option Addr} {c : Nat} {l : List Int} (hr : NLi w A c l) (h1 : 1 ≤ l.length) (h6 : l.length ≤ 65536) :
    Calls Try.prog 62 #[.slice A l.length c] w fun e w' => ∃ z, e = .returned (.int .i64 z) ∧ Ext w w' ∧ maxTo l l.length z := by
  obtain ⟨b, off, rfl, hc⟩ := hr.rd (by omega)
  have hle := hr.le
  have hat : ∀ k, k < l.length → ∀ W, Ext w W → W.cell? ⟨b, off + k, none⟩ = some (.int .i64 (l.getD k 0)) := fun k hk W hW => by
    refine hW.cell ?_
    rw [hc k _ (List.getElem?_eq_getElem hk)]
    simp [List.getD_eq_getElem?_getD, List.getElem?_eq_getElem hk]
  have q0 := hat 0 (by omega) w (Below.refl _ _)
  have hn1 : ¬ (l.length : Int) < 1 := by omega
  have hc0 : 0 < c := by omega
  have h00 : maxTo l 1 (l.getD 0 0) := ⟨fun j hj => by rw [show j = 0 by omega]; exact Int.le_refl _, 0, by omega, rfl⟩
  rw [Nat.add_zero] at q0
  generalize l.getD 0 0 = z0 at q0 h00
  clear hc hr
  have hl0 : 0 < l.length := by omega
  go_enter Try.func62, Try.ntmps62
  go_wp2
  clear q0
  go_loopw [3, 4] (fun zv i wr => ∃ (k : Nat) (z : Int), 1 ≤ k ∧ k ≤ l.length ∧ i = .int .i64 k ∧ zv = .int .i64 z ∧ Ext w wr ∧ maxTo l k z) (fun _ i _ => l.length - (intOf i).toNat)
  case atStart => exact ⟨1, z0, Nat.le_refl _, h1, rfl, rfl, Below.refl _ _, h00⟩
  case round =>
    clear h00
    obtain ⟨k, z, hk1, hk, rfl, rfl, hE, hM⟩ := hrel
    by_cases hkl : k < l.length
    · have q1 := hat k hkl wr hE
      have hs := hM.step
      have hn := hM.new
      generalize l.getD k 0 = u at q1 hs hn
      clear hat
      have hkc : k < c := by omega
      by_cases hlt : z < u
      · have hM2 := hn hlt
        clear hs hn
        go_wp2
        go_roundw
        case rel => exact ⟨k + 1, u, by omega, by omega, by go_num, by go_num, hE, hM2⟩
        case measure => simp [intOf]; omega
      · have hM2 := hs hlt
        clear hs hn
        go_wp2
        go_roundw
        case rel => exact ⟨k + 1, z, by omega, by omega, by go_num, by go_num, hE, hM2⟩
        case measure => simp [intOf]; omega
    · obtain rfl : k = l.length := by omega
      go_wp2
      go_ret
      exact ⟨z, rfl, hE, hM⟩
theorem load_pool {w : World} {A : Option Addr} {c : Nat} {cs : List Int} (refs : Int) (hr : NLi w A c cs) (h0 : A = none → cs = [] ∧ c = 0) (h6 : cs.length ≤ 140737488355328) :
    Calls Try.prog 31 #[.int .i64 refs, .slice A cs.length c] w fun e w' => ∃ v, e = .returned (.tuple #[v, .int .i64 (loadE refs cs)]) ∧ Ext w w' ∧
    ((¬ loadE refs cs = 0 ∧ v = .pointer none) ∨ (loadE refs cs = 0 ∧ ∃ m', v = .pointer (some ⟨m'.p, 0, none⟩) ∧ PoolS w.heap.size 0 w' m' (loadS refs cs))) := by
  have hri := right_any cs.length refs (w := w)
  unfold loadE
  by_cases h : rightB cs.length refs = true
  · rw [if_pos h]
    obtain ⟨h1, h2, h3, h4⟩ := of_decide_eq_true h
    rw [h] at hri
    have hmin := min_any hr (by omega) (by omega)
    have hmax := fun W (hW : Ext w W) => max_any (hr.ext hW) (by omega) (by omega)
    by_cases ha : (cs.all fun c => decide (0 ≤ c ∧ c ≤ refs)) = true
    · rw [if_pos ha]
      have hb : ∀ j, j < cs.length → 0 ≤ cs.getD j 0 ∧ cs.getD j 0 ≤ refs := fun j hj => by
        have := List.all_eq_true.1 ha cs[j] (List.getElem_mem hj)
        simpa [List.getD_eq_getElem?_getD, List.getElem?_eq_getElem hj] using this
      have hcl := fun W (hW : Ext w W) => iclone_any (hr.ext hW) (by omega) h0
      clear h1 h2
      go_enter Try.func31, Try.ntmps31
      go_wp2_with fail
      refine hri.mono ?_
      rintro e w2 ⟨rfl, rfl⟩
      go_wp2_with fail
      refine hmin.mono ?_
      rintro e w2 ⟨z1, rfl, E1, m1, j1, hj1, e1⟩
      have b1 := hb j1 hj1
      rw [← e1] at b1
      have b1' := b1.1
      have b1n : ¬ z1 < 0 := by omega
      clear e1 m1
      go_wp2_with fail
      refine (hmax w2 E1).mono ?_
      rintro e w3 ⟨z2, rfl, E2, m2, j2, hj2, e2⟩
      have b2 := hb j2 hj2
      rw [← e2] at b2
      have b2' := b2.2
      clear e2 m2
      go_wp2_with fail
      have E3 := E1.trans E2
      have hs3 := E3.size
      refine (hcl w3 E3).mono ?_
      rintro e w2 ⟨A', c', rfl, q1, q2⟩
      have hov := over_any q1 q2.size (refs := refs) ⟨h3, by omega⟩ (by have := of_decide_eq_true h; omega) (fun z hz => by
        obtain ⟨j, hj, rfl⟩ := List.getElem_of_mem hz
        have := hb j hj
        simpa [List.getD_eq_getElem?_getD, List.getElem?_eq_getElem hj] using this)
      go_wp2_with fail
      refine hov.mono ?_
      rintro e w3 ⟨m', rfl, r1, r2, r3⟩
      have hE := E3.trans (q2.trans r2)
      clear hov q1 q2 r2 r3 hcl hmin hmax hri
      go_wp2
      refine bodyPost_ret (results_tmp2 rfl _ _ _) rfl ?_
      exact ⟨_, rfl, hE, .inr ⟨by trivial, m', rfl, r1.low hs3⟩⟩
    · rw [if_neg ha]
      have hex : ∃ j, j < cs.length ∧ ¬ (0 ≤ cs.getD j 0 ∧ cs.getD j 0 ≤ refs) := by
        refine Classical.byContradiction fun hn => ha (List.all_eq_true.2 fun z hz => ?_)
        obtain ⟨j, hj, rfl⟩ := List.getElem_of_mem hz
        refine decide_eq_true (Classical.byContradiction fun hn2 => hn ⟨j, hj, ?_⟩)
        simpa [List.getD_eq_getElem?_getD, List.getElem?_eq_getElem hj] using hn2
      obtain ⟨j, hj, hno⟩ := hex
      clear h1 h2
      go_enter Try.func31, Try.ntmps31
      go_wp2_with fail
      refine hri.mono ?_
      rintro e w2 ⟨rfl, rfl⟩
      go_wp2_with fail
      refine hmin.mono ?_
      rintro e w2 ⟨z1, rfl, E1, m1, _⟩
      have b1 := m1 j hj
      by_cases hz : z1 < 0
      · go_wp2
        refine bodyPost_ret (results_tmp2 rfl _ _ _) rfl ?_
        exact ⟨_, rfl, E1, .inl ⟨by decide, rfl⟩⟩
      · go_wp2_with fail
        refine (hmax w2 E1).mono ?_
        rintro e w3 ⟨z2, rfl, E2, m2, _⟩
        have b2 := m2 j hj
        have b3 : refs < z2 := by omega
        go_wp2
        refine bodyPost_ret (results_tmp2 rfl _ _ _) rfl ?_
        exact ⟨_, rfl, E1.trans E2, .inl ⟨by decide, rfl⟩⟩
  · rw [if_neg h]
    rw [Bool.eq_false_iff.2 h] at hri
    go_enter Try.func31, Try.ntmps31
    go_wp2_with fail
    refine hri.mono ?_
    rintro e w2 ⟨rfl, rfl⟩
    go_wp2
    refine bodyPost_ret (results_tmp2 rfl _ _ _) rfl ?_
    exact ⟨_, rfl, Below.refl _ _, .inl ⟨by decide, rfl⟩⟩
end Go.Proofs.Ytaalhicdeibodaa
