/- Package runs, at uint16: Same, Len. No condition but the bounds of the kind and of the sizes. -/
import Derived.Test.YtffapgemacbdjaaRed
namespace Go.Proofs.Ytffapgemacbdjaa
open Go.RowKit Go.Proofs Go.Shelf
set_option linter.unusedVariables false
set_option maxRecDepth 100000 in
set_option maxHeartbeats 1000000 in
theorem same_anyd {B B' p p' c c' : Nat} {A A' : Option Addr} {L M : List Rn} {w : World} (hS : SetAtd B p A c w L) (hT : SetAtd B' p' A' c' w M) (hl : L.length ≤ 1000000) (hm : M.length ≤ 1000000) :
    Calls Try.prog 114 #[.pointer (some ⟨p, 0, none⟩), .pointer (some ⟨p', 0, none⟩)] w fun e w' => e = .returned (.bool (decide (L = M))) ∧ Ext w w' := by
  obtain ⟨d, hd⟩ : ∃ d, decide (L = M) = d := ⟨_, rfl⟩
  rw [hd]
  have HQ := Lib.hid hd
  clear hd
  have x0 : ∀ W, Ext w W → W.cell? ⟨p, 0, none⟩ = some (.slice A L.length c) := fun W h => by
    have := cell_of_row W p 0 _ _ _ (hS.ext h).hd
    simpa using this
  have x1 : ∀ W, Ext w W → W.cell? ⟨p', 0, none⟩ = some (.slice A' M.length c') := fun W h => by
    have := cell_of_row W p' 0 _ _ _ (hT.ext h).hd
    simpa using this
  go_enter Try.func114, Try.ntmps114
  go_wp2
  refine wp_region_rg Ext rel_ext (fun _ => True) [0, 1, 2, 3, 4, 5, 6, 7, 8, 9] (fun i => match i with | 8 => some fun _ z _ => z = .bool d | _ => none) (fun _ => none) (fun _ => false) (by kernel_rfl) (by kernel_rfl) (fun _ _ _ _ => trivial) trivial (fun W N hW _ hN => ?_)
  have hEW := hW
  repeat (first | (apply wpR_one; (case ho => (simp only [List.getElem?_toArray, List.getElem?_cons_succ, List.getElem?_cons_zero]; try exact rfl)); (case hw => rfl); (case hl => rfl); (case hsp => rfl); (case he => rfl); (case hv => (intro w' hw'; (try (have hw2 := Ext.trans hEW hw')); (try (have hw3 := Exc.trans hEW hw')); (try (have hw4 := Exk.trans hEW hw')); (try (have hw5 := Mrk.trans hEW hw')); go_simp; exact rfl)); (case hw0 => (first | exact Below.refl _ _ | exact Exc.of_ext (Below.refl _ _) | exact Exk.of_ext (Below.refl _ _) | exact Mrk.of_ext (Below.refl _ _))); simp only [Act.put, List.setIfInBounds_toArray, List.set_cons_succ, List.set_cons_zero]) | (apply wpR_early; (case ho => (simp only [List.getElem?_toArray, List.getElem?_cons_succ, List.getElem?_cons_zero]; try exact rfl)); (case hw => rfl); (case hl => rfl); (case hsp => rfl); (case he => rfl); (case hv => (intro w' hw'; (try have hw2 := Ext.trans hEW hw'); go_simp; exact rfl)); simp only [Act.put, List.setIfInBounds_toArray, List.set_cons_succ, List.set_cons_zero]) | (apply wpR_pass; (case ho => (simp only [List.getElem?_toArray, List.getElem?_cons_succ, List.getElem?_cons_zero]; try exact rfl)); (case hw => rfl); (case hl => rfl); simp only [Act.put, List.setIfInBounds_toArray, List.set_cons_succ, List.set_cons_zero]))
  refine wpR_new (by ((simp only [List.getElem?_toArray, List.getElem?_cons_succ, List.getElem?_cons_zero]; try exact rfl))) _ rfl rfl rfl (fun V v => Lasts.pure) (fun V V' h => rfl) (fun w' hw' hK => ?_) (fun z hz => ?_)
  · unfold opAt; go_simp; refine upAt_enter ?_
    refine (equal_anyd (hS.row.ext (hEW.trans hw')) (hT.row.ext (hEW.trans hw')) hl hm).mono ?_
    rintro e w2 ⟨rfl, hE2⟩
    exact ⟨_, rfl, hE2, by rw [HQ.out]⟩
  obtain ⟨_, _, _, rfl⟩ := hz
  simp only [Act.put, List.setIfInBounds_toArray, List.set_cons_succ, List.set_cons_zero]
  repeat (first | (apply wpR_one; (case ho => (simp only [List.getElem?_toArray, List.getElem?_cons_succ, List.getElem?_cons_zero]; try exact rfl)); (case hw => rfl); (case hl => rfl); (case hsp => rfl); (case he => rfl); (case hv => (intro w' hw'; (try (have hw2 := Ext.trans hEW hw')); (try (have hw3 := Exc.trans hEW hw')); (try (have hw4 := Exk.trans hEW hw')); (try (have hw5 := Mrk.trans hEW hw')); go_simp; exact rfl)); (case hw0 => (first | exact Below.refl _ _ | exact Exc.of_ext (Below.refl _ _) | exact Exk.of_ext (Below.refl _ _) | exact Mrk.of_ext (Below.refl _ _))); simp only [Act.put, List.setIfInBounds_toArray, List.set_cons_succ, List.set_cons_zero]) | (apply wpR_early; (case ho => (simp only [List.getElem?_toArray, List.getElem?_cons_succ, List.getElem?_cons_zero]; try exact rfl)); (case hw => rfl); (case hl => rfl); (case hsp => rfl); (case he => rfl); (case hv => (intro w' hw'; (try have hw2 := Ext.trans hEW hw'); go_simp; exact rfl)); simp only [Act.put, List.setIfInBounds_toArray, List.set_cons_succ, List.set_cons_zero]) | (apply wpR_pass; (case ho => (simp only [List.getElem?_toArray, List.getElem?_cons_succ, List.getElem?_cons_zero]; try exact rfl)); (case hw => rfl); (case hl => rfl); simp only [Act.put, List.setIfInBounds_toArray, List.set_cons_succ, List.set_cons_zero]))
  apply wpR_nil
  apply hN
  intro w' hE' hK _
  have hE2 := hEW.trans hE'
  clear hK hN x0 x1 hW hEW hE'
  go_wp2
  go_ret
  exact ⟨rfl, hE2⟩
theorem same_nild {B p c : Nat} {A : Option Addr} {L : List Rn} {w : World} (hS : SetAtd B p A c w L) (hl : L.length ≤ 1000000) :
    Calls Try.prog 114 #[.pointer (some ⟨p, 0, none⟩), .pointer none] w fun e w' => e = .returned (.bool (L.length == 0)) ∧ w = w' := by
  have q1 := cell_of_row w p 0 _ _ _ hS.hd
  simp only [List.getElem?_toArray, List.getElem?_cons_zero] at q1
  go_enter Try.func114, Try.ntmps114
  go_wp2
  go_ret
  exact ⟨ret_bool (by rw [Bool.eq_iff_iff]; simp), rfl⟩
set_option maxRecDepth 100000 in
set_option maxHeartbeats 1000000 in
theorem len_anyd {B p c : Nat} {A : Option Addr} {L : List Rn} {w : World} (hS : SetAtd B p A c w L) (hl : L.length ≤ 1000000) :
    Calls Try.prog 108 #[.pointer (some ⟨p, 0, none⟩)] w fun e w' => e = .returned (.int .i64 (L.foldl withZ 0)) ∧ Ext w w' := by
  have q1 := cell_of_row w p 0 _ _ _ hS.hd
  simp only [List.getElem?_toArray, List.getElem?_cons_zero] at q1
  go_enter Try.func108, Try.ntmps108
  go_wp2
  clear q1
  go_loopw [3, 11] (fun n i wr => ∃ (k : Nat) (z : Int), k ≤ L.length ∧ i = .int .i64 k ∧ n = .int .u64 z ∧ Hid ((L.take k).foldl withZ 0 = z) ∧ 0 ≤ z ∧ z ≤ 9223372036854775807 ∧ Ext w wr) (fun _ i _ => L.length - (intOf i).toNat)
  case atStart => exact ⟨0, 0, Nat.zero_le _, rfl, rfl, Lib.hid rfl, by decide, by decide, Below.refl _ _⟩
  case round =>
    obtain ⟨k, z, hk, rfl, rfl, HZ, hz0, hz1, hE⟩ := hrel
    by_cases hlt : k < L.length
    · obtain ⟨x, hx⟩ : ∃ x, L[k]? = some x := ⟨_, List.getElem?_eq_getElem hlt⟩
      obtain ⟨g, rfl, hlc, hBg, cx0, cx1⟩ := (hS.row.ext hE).at hx
      have hkc : k < c := by omega
      have hbx := hS.bd x (List.mem_of_getElem? hx)
      have hwx := hS.wf.each x (List.mem_of_getElem? hx)
      have hzb := withZ_bd ⟨hz0, hz1⟩ hwx
      have HZ2 : Hid ((L.take (k + 1)).foldl withZ 0 = withZ z x) := Lib.hid (by
        obtain ⟨h1, rfl⟩ := List.getElem?_eq_some_iff.1 hx
        rw [List.take_succ_eq_append_getElem h1, List.foldl_append, HZ.out]
        rfl)
      have HC := fun W => with_anyd (w := W) hbx hwx ⟨hz0, hz1⟩
      generalize withZ z x = z2 at *
      clear hx
      go_wp2_with fail
      refine (HC _).mono ?_
      rintro e w2 ⟨rfl, hE2⟩
      have hE3 := (hE.trans (ext_alloc wr (Obj.cells #[.int .u16 x.lo, .int .u16 x.hi] 220))).trans hE2
      clear HC hE hE2
      go_wp2
      go_roundw
      case rel => exact ⟨k + 1, z2, by omega, by go_num, rfl, HZ2, hzb.1, hzb.2, hE3⟩
      case measure => simp [intOf]; omega
    · obtain rfl : k = L.length := by omega
      have HZ2 : Hid (L.foldl withZ 0 = z) := Lib.hid (by have := HZ.out; rwa [List.take_length] at this)
      have hw64 : IntKind.i64.wrap z = z := by rw [IntKind.wrap_i64]; omega
      go_wp2
      go_ret
      refine ⟨ret_int ?_, hE⟩
      rw [HZ2.out]
end Go.Proofs.Ytffapgemacbdjaa
