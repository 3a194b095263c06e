/- Layer 10: SpareInts, KeptInts. No condition but the sizes. -/
import Derived.Test.YtaalhicdeibodaaPu
namespace Go.Proofs.Ytaalhicdeibodaa
open Go.RowKit Go.Proofs Go.Shelf
set_option linter.unusedVariables false
attribute [local go_sem] Oper.semAt_some
def spareL (n : Nat) : List Int := (List.range 64).map fun j : Nat => -7 - ((n + j : Nat) : Int)
def fullL (l : List Int) : List Int := l ++ spareL l.length
theorem full_len (l : List Int) : (fullL l).length = l.length + 64 := by simp [fullL, spareL]
theorem full_lo {l : List Int} {k : Nat} (hk : k < l.length) : (fullL l).getD k 0 = l.getD k 0 := by
  unfold fullL
  rw [List.getD_eq_getElem?_getD, List.getD_eq_getElem?_getD, List.getElem?_append_left hk]
theorem full_hi {l : List Int} {k : Nat} (hk : l.length ≤ k) (hk2 : k < l.length + 64) : (fullL l).getD k 0 = -7 - (k : Int) := by
  unfold fullL spareL
  rw [List.getD_eq_getElem?_getD, List.getElem?_append_right hk, List.getElem?_map, List.getElem?_range (by omega)]
  show -7 - ((l.length + (k - l.length) : Nat) : Int) = _
  rw [show l.length + (k - l.length) = k by omega]
set_option maxRecDepth 100000 in
set_option maxHeartbeats 1000000 in
theorem spareInts_any {w : World} {A : Option Addr} {c : Nat} {l : List Int} (hx : NLi w A c l) (hl : l.length ≤ 17592186043904) :
    Calls Try.prog 33 #[.slice A l.length c] w fun e w' => e = .returned (.slice (some ⟨w.heap.size, 0, none⟩) l.length (l.length + 64)) ∧ RowI w.heap.size w' (some ⟨w.heap.size, 0, none⟩) (l.length + 64) (fullL l) ∧ Ext w w' := by
  obtain ⟨i0, hi, hz0, hz1, hz2⟩ := info_split infoI
  have hfl := full_len l
  have hwr : IntKind.i64.wrap ((l.length : Int) + 64) = ((l.length + 64 : Nat) : Int) := by rw [IntWalk.i64_in _ (by omega)]; omega
  go_enter Try.func33, Try.ntmps33
  go_wp2_with (refine wpList_make_full _ rfl _ _ 22 rfl w.heap.size 3 i0 _ 1 Try.underlying22 hi hz0 hz1 .i64 .i64 _ _ (l.length + 64) rfl rfl (by omega) (by omega) (by rw [hz2]; omega) (by unfold maxLen; omega) (Nat.le_refl _) ?_; intro w2 ho2 hg2)
  rw [made1 _ rfl] at ho2
  have hE2 := ext_grown0 hg2
  have hR2 : RowI w.heap.size w2 (some ⟨w.heap.size, 0, none⟩) (l.length + 64) (cntTo (fullL l) 0) := by
    rw [cntTo_zero, hfl]
    unfold RowI
    rw [List.length_replicate, show ic (List.replicate (l.length + 64) 0) = List.replicate (l.length + 64) (Value.int .i64 0) by simp [ic]]
    exact ho2
  have HFL := Lib.hid hfl
  clear hg2 ho2 hwr hfl
  go_loopw [4] (fun i wr => ∃ k : Nat, k ≤ l.length + 64 ∧ i = .int .i64 k ∧ RowI w.heap.size wr (some ⟨w.heap.size, 0, none⟩) (l.length + 64) (cntTo (fullL l) k) ∧ Ext w wr) (fun i _ => l.length + 64 - (intOf i).toNat)
  case atStart => exact ⟨0, Nat.zero_le _, rfl, hR2, hE2⟩
  case round =>
    clear hR2 hE2
    obtain ⟨k, hk, rfl, hR, hE⟩ := hrel
    rename World => v1
    by_cases hk1 : k < l.length + 64
    · have hfk : k < (fullL l).length := by rw [HFL.out]; exact hk1
      have hct := cntTo_len (cs := fullL l) (k := k) (by omega)
      have hcs := cntTo_set hfk
      obtain ⟨g, hg, _, _, d1, f1⟩ := hR.at (i := k) (by omega)
      injection hg with hg
      injection hg with hg
      subst hg
      have hst := fun z => hR.store (k := k) (by omega) z
      have hk0 : ¬ (k : Int) < 0 := by omega
      have hE3 : ∀ z, Ext w (v1.setCell ⟨w.heap.size, k, none⟩ z) := fun z => (setCell_excp v1 w.heap.size k z).to_ext hE (fun q o e => by omega)
      by_cases hk2 : k < l.length
      · obtain ⟨u, hu⟩ : ∃ u, l[k]? = some u := ⟨_, List.getElem?_eq_getElem hk2⟩
        have hud : (fullL l).getD k 0 = u := by rw [full_lo hk2]; simp [List.getD_eq_getElem?_getD, hu]
        obtain ⟨b, off, rfl, hkc, hcu⟩ := hx.at hu
        have q0 := hcu v1 hE
        have h4 := hst u
        rw [← hud, hcs] at h4
        rw [hud] at h4
        have hE4 := hE3 (.int .i64 u)
        clear hud hu hcs hct hfk hcu hst hR hE3
        go_wp2
        go_roundw
        case rel => exact ⟨k + 1, by omega, by go_num, h4, hE4⟩
        case measure => simp [intOf]; omega
      · have hud : (fullL l).getD k 0 = -7 - (k : Int) := full_hi (by omega) hk1
        have h4 := hst (-7 - (k : Int))
        rw [← hud, hcs] at h4
        rw [hud] at h4
        have hE4 := hE3 (.int .i64 (-7 - (k : Int)))
        clear hud hcs hct hfk hst hR hE3
        go_wp2
        go_roundw
        case rel => exact ⟨k + 1, by omega, by go_num, h4, hE4⟩
        case measure => simp [intOf]; omega
    · obtain rfl : k = l.length + 64 := by omega
      rw [← HFL.out, cntTo_end] at hR
      rw [HFL.out] at hR
      go_wp2
      go_ret
      exact ⟨rfl, hR, hE⟩
theorem RowI.front {B g : Nat} {w : World} {c : Nat} {l m : List Int} (h : RowI B w (some ⟨g, 0, none⟩) c (l ++ m)) (hb : ∀ z ∈ l, -9223372036854775808 ≤ z ∧ z ≤ 9223372036854775807) : NLi w (some ⟨g, 0, none⟩) c l := by
  have hle := h.le.1
  rw [List.length_append] at hle
  refine ⟨fun hn => ⟨g, 0, rfl, fun i z hi => ?_⟩, by omega, hb⟩
  obtain ⟨hl, rfl⟩ := List.getElem?_eq_some_iff.1 hi
  obtain ⟨g', e, _, _, q, _⟩ := h.at (i := i) (by rw [List.length_append]; omega)
  injection e with e
  injection e with e
  subst e
  rw [Nat.zero_add, q, List.getD_eq_getElem?_getD, List.getElem?_append_left hl, hi]
  rfl
set_option maxRecDepth 100000 in
set_option maxHeartbeats 1000000 in
theorem keptInts_any {w : World} {B g : Nat} {A : Option Addr} {d : Nat} {l : List Int} (hR : RowI B w (some ⟨g, 0, none⟩) (l.length + 64) (fullL l)) (hy : NLi w A d l) (hl : l.length ≤ 17592186043904) :
    Calls Try.prog 35 #[.slice (some ⟨g, 0, none⟩) l.length (l.length + 64), .slice A l.length d] w fun e w' => e = .returned (.bool true) ∧ Ext w w' := by
  have hx := RowI.front hR hy.bd
  have heq := eqi_any hx hy (by omega) (by omega)
  rw [decide_eq_true rfl] at heq
  have hfl := full_len l
  have HFL := Lib.hid hfl
  clear hfl
  go_enter Try.func35, Try.ntmps35
  go_wp2_with fail
  refine heq.mono ?_
  rintro e w1 ⟨rfl, hE1⟩
  clear heq
  go_wp2
  go_loopw [6] (fun i wr => ∃ k : Nat, l.length ≤ k ∧ k ≤ l.length + 64 ∧ i = .int .i64 k ∧ Ext w wr) (fun i _ => l.length + 64 - (intOf i).toNat)
  case atStart => exact ⟨l.length, Nat.le_refl _, by omega, rfl, hE1⟩
  case round =>
    clear hE1
    obtain ⟨k, hk1, hk2, rfl, hE⟩ := hrel
    rename World => v1
    by_cases hk3 : k < l.length + 64
    · obtain ⟨g', hg, _, _, d1, _⟩ := RowI.at (w := v1) (own_ext hR hE) (i := k) (by rw [HFL.out]; exact hk3)
      injection hg with hg
      injection hg with hg
      subst hg
      rw [full_hi hk1 hk3] at d1
      have hk0 : ¬ (k : Int) < 0 := by omega
      have hkI : (k : Int) < (l.length : Int) + 64 := by omega
      have hbb : ((-7 - (k : Int)) != (-7 - (k : Int))) = false := by simp
      go_wp2
      go_roundw
      case rel => exact ⟨k + 1, by omega, by omega, by go_num, hE⟩
      case measure => simp [intOf]; omega
    · obtain rfl : k = l.length + 64 := by omega
      go_wp2
      go_ret
      exact ⟨rfl, hE⟩
end Go.Proofs.Ytaalhicdeibodaa
