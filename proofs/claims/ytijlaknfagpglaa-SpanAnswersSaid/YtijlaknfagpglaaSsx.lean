/- slices.swapRangeCmpFunc and rotateCmpFunc over ranges. No condition but sizes. -/
import Derived.Test.YtijlaknfagpglaaSsw
import Derived.IntWalk
namespace Go.Proofs.Ytijlaknfagpglaa
open Go.RowKit Go.Proofs Go.Sort
set_option linter.unusedVariables false
set_option linter.unusedSimpArgs false
set_option maxHeartbeats 2000000 in
theorem swapRange_any {B g cap x y n : Nat} {d : Array Fr} {w : World} (h : SR B g cap d w) (hxy : x + n ≤ y) (hyb : y + n ≤ d.size) (hsz : d.size ≤ 1048576) :
    Calls Try.prog 79 #[.slice (some ⟨g, 0, none⟩) d.size cap, .int .i64 x, .int .i64 y, .int .i64 n, .func (.func 54) #[] #[]] w fun e w' => e = .returned (.tuple #[]) ∧ ∃ d', SwOf x y n d d' ∧ PermIn x (y + n) d d' ∧ SR B g cap d' w' ∧ Exc (DG g) w w' := by
  go_enter Try.func79, Try.ntmps79
  go_wp2
  go_loopw [10] (fun ii wr => ∃ (i : Nat) (dk : Array Fr), i ≤ n ∧ ii = .int .i64 i ∧ Hid (SwOf x y i d dk) ∧ Hid (PermIn x (y + n) d dk) ∧ SR B g cap dk wr ∧ Exc (DG g) w wr) (fun ii _ => n - (intOf ii).toNat)
  case atStart => exact ⟨0, d, Nat.zero_le _, rfl, Lib.hid (SwOf.zero x y d), Lib.hid (permIn_refl d _ _), h, exc_refl _ _⟩
  case round =>
    clear h
    obtain ⟨i, dk, hi, rfl, HQ, HP, hS, hE⟩ := hrel
    by_cases hlt : i < n
    · have hki : (i : Int) < (n : Int) := by omega
      have hds := HQ.out.size
      obtain ⟨X, hX⟩ : ∃ X : Nat, x + i = X := ⟨_, rfl⟩
      obtain ⟨Y, hY⟩ : ∃ Y : Nat, y + i = Y := ⟨_, rfl⟩
      have hXi : (x : Int) + (i : Int) = (X : Int) := by omega
      have hYi : (y : Int) + (i : Int) = (Y : Int) := by omega
      have iwx : IntKind.i64.wrap (X : Int) = (X : Int) := IntWalk.i64_in _ (by omega)
      have iwy : IntKind.i64.wrap (Y : Int) = (Y : Int) := IntWalk.i64_in _ (by omega)
      have hXs : X < dk.size := by omega
      have hYs : Y < dk.size := by omega
      have HX := Lib.hid hX
      have HY := Lib.hid hY
      have HDS := Lib.hid hds
      have hXd : X < d.size := by omega
      have hYd : Y < d.size := by omega
      clear hX hY hds
      go_wp2
      obtain ⟨fx, hfx⟩ : ∃ f, dk[X]! = f := ⟨_, rfl⟩
      obtain ⟨fy, hfy⟩ : ∃ f, dk[Y]! = f := ⟨_, rfl⟩
      have hnx := hS.lo X hXs
      have hny := hS.lo Y hYs
      rw [hfx] at hnx
      rw [hfy] at hny
      have HSW := Lib.hid (show swp dk X Y = (dk.setIfInBounds X fy).setIfInBounds Y fx by rw [← hfx, ← hfy]; rfl)
      have hcx := hS.capd
      have hXc : X < cap := by omega
      have hYc : Y < cap := by omega
      refine wp_region_rg (Exc (DG g)) (rel_exc _) (fun w' => SR B g cap dk w') [0, 1, 2, 3, 4, 5, 6, 7, 8, 9, 10, 11, 12, 13, 14, 15, 16, 17, 18, 19, 20, 21, 22, 23] (fun _ => none) (fun i => match i with
        | 21 => some fun V _ w' => SR B g cap (dk.setIfInBounds X fy) w'
        | 23 => some fun V _ w' => SR B g cap ((dk.setIfInBounds X fy).setIfInBounds Y fx) w'
        | _ => none) (fun i => match i with | 13 => true | 19 => true | _ => false) (by kernel_rfl) (by kernel_rfl) (fun _ _ h he => h.ext he) (hS.ext (ext_drew _)) (fun W9 N hW hF0 hN => ?_)
      have hEW : Exc (DG g) wr W9 := Exc.of_ext hW
      have hF0' : SR B g cap dk W9 := hF0
      have a0 : ∀ w', Ext W9 w' → w'.cell? ⟨g, X * 3, none⟩ = some (.slice fx.lA fx.lo.length fx.lc) := fun w' h => by rw [← hfx]; exact (hF0'.ext h).c0 hXs
      have a1 : ∀ w', Ext W9 w' → w'.cell? ⟨g, X * 3 + 1, none⟩ = some (.slice fx.hA fx.hi.length fx.hc) := fun w' h => by rw [← hfx]; exact (hF0'.ext h).c1 hXs
      have a2 : ∀ w', Ext W9 w' → w'.cell? ⟨g, X * 3 + 2, none⟩ = some (.bool fx.op) := fun w' h => by rw [← hfx]; exact (hF0'.ext h).c2 hXs
      have b0 : ∀ w', Ext W9 w' → w'.cell? ⟨g, Y * 3, none⟩ = some (.slice fy.lA fy.lo.length fy.lc) := fun w' h => by rw [← hfy]; exact (hF0'.ext h).c0 hYs
      have b1 : ∀ w', Ext W9 w' → w'.cell? ⟨g, Y * 3 + 1, none⟩ = some (.slice fy.hA fy.hi.length fy.hc) := fun w' h => by rw [← hfy]; exact (hF0'.ext h).c1 hYs
      have b2 : ∀ w', Ext W9 w' → w'.cell? ⟨g, Y * 3 + 2, none⟩ = some (.bool fy.op) := fun w' h => by rw [← hfy]; exact (hF0'.ext h).c2 hYs
      have HFX := Lib.hid hfx
      have HFY := Lib.hid hfy
      have HS9 := Lib.hid hS
      have HNX := Lib.hid hnx
      have HNY := Lib.hid hny
      clear hfx hfy hS hnx hny hF0' hcx
      repeat (first | (apply wpR_one; (case ho => (simp only [List.getElem?_toArray, List.getElem?_cons_succ, List.getElem?_cons_zero]; try exact rfl)); (case hw => rfl); (case hl => rfl); (case hsp => rfl); (case he => rfl); (case hv => (intro w' hw'; (try (have hw2 := Ext.trans hEW hw')); (try (have hw3 := Exc.trans hEW hw')); (try (have hw4 := Exk.trans hEW hw')); (try (have hw5 := Mrk.trans hEW hw')); go_simp; exact rfl)); (case hw0 => (first | exact Below.refl _ _ | exact Exc.of_ext (Below.refl _ _) | exact Exk.of_ext (Below.refl _ _) | exact Mrk.of_ext (Below.refl _ _))); simp only [Act.put, List.setIfInBounds_toArray, List.set_cons_succ, List.set_cons_zero]) | (apply wpR_early; (case ho => (simp only [List.getElem?_toArray, List.getElem?_cons_succ, List.getElem?_cons_zero]; try exact rfl)); (case hw => rfl); (case hl => rfl); (case hsp => rfl); (case he => rfl); (case hv => (intro w' hw'; (try have hw2 := Ext.trans hEW hw'); go_simp; exact rfl)); simp only [Act.put, List.setIfInBounds_toArray, List.set_cons_succ, List.set_cons_zero]) | (apply wpR_pass; (case ho => (simp only [List.getElem?_toArray, List.getElem?_cons_succ, List.getElem?_cons_zero]; try exact rfl)); (case hw => rfl); (case hl => rfl); simp only [Act.put, List.setIfInBounds_toArray, List.set_cons_succ, List.set_cons_zero]))
      refine wpR_late (by ((simp only [List.getElem?_toArray, List.getElem?_cons_succ, List.getElem?_cons_zero]; try exact rfl))) _ rfl rfl (fun V v w' w2 h he => h.ext he) (fun V V' h => rfl) (fun w' hw' hK hF => ?_) (fun v hv => ?_)
      · have hF1 : SR B g cap dk w' := hF
        refine opAt_list rfl #[] (fun Q hQ => ?_)
        refine wpList_store_own rfl 32 _ _ rfl g dk.size cap (c3 fy) rfl rfl hF1.own hXs rfl (by kernel_rfl) (by simp [Value.oneCell']) (fun w2 ho hg => ?_)
        exact hQ _ _ ⟨Exc.of_only hg (fun _ _ => rfl), hF1.put hXs (HNY.out.exc (hEW.trans hw')) ho hg⟩
      clear hv
      simp only [Act.put, List.setIfInBounds_toArray, List.set_cons_succ, List.set_cons_zero]
      repeat (first | (apply wpR_one; (case ho => (simp only [List.getElem?_toArray, List.getElem?_cons_succ, List.getElem?_cons_zero]; try exact rfl)); (case hw => rfl); (case hl => rfl); (case hsp => rfl); (case he => rfl); (case hv => (intro w' hw'; (try (have hw2 := Ext.trans hEW hw')); (try (have hw3 := Exc.trans hEW hw')); (try (have hw4 := Exk.trans hEW hw')); (try (have hw5 := Mrk.trans hEW hw')); go_simp; exact rfl)); (case hw0 => (first | exact Below.refl _ _ | exact Exc.of_ext (Below.refl _ _) | exact Exk.of_ext (Below.refl _ _) | exact Mrk.of_ext (Below.refl _ _))); simp only [Act.put, List.setIfInBounds_toArray, List.set_cons_succ, List.set_cons_zero]) | (apply wpR_early; (case ho => (simp only [List.getElem?_toArray, List.getElem?_cons_succ, List.getElem?_cons_zero]; try exact rfl)); (case hw => rfl); (case hl => rfl); (case hsp => rfl); (case he => rfl); (case hv => (intro w' hw'; (try have hw2 := Ext.trans hEW hw'); go_simp; exact rfl)); simp only [Act.put, List.setIfInBounds_toArray, List.set_cons_succ, List.set_cons_zero]) | (apply wpR_pass; (case ho => (simp only [List.getElem?_toArray, List.getElem?_cons_succ, List.getElem?_cons_zero]; try exact rfl)); (case hw => rfl); (case hl => rfl); simp only [Act.put, List.setIfInBounds_toArray, List.set_cons_succ, List.set_cons_zero]))
      refine wpR_late (by ((simp only [List.getElem?_toArray, List.getElem?_cons_succ, List.getElem?_cons_zero]; try exact rfl))) _ rfl rfl (fun V v w' w2 h he => h.ext he) (fun V V' h => rfl) (fun w' hw' hK hF => ?_) (fun v hv => ?_)
      · have hF1 : SR B g cap (dk.setIfInBounds X fy) w' := hF
        have hY2 : Y < (dk.setIfInBounds X fy).size := by simpa using hYs
        refine opAt_list rfl #[] (fun Q hQ => ?_)
        refine wpList_store_own rfl 32 _ _ rfl g (dk.setIfInBounds X fy).size cap (c3 fx) rfl rfl hF1.own hY2 rfl (by kernel_rfl) (by simp [Value.oneCell']) (fun w2 ho hg => ?_)
        exact hQ _ _ ⟨Exc.of_only hg (fun _ _ => rfl), hF1.put hY2 (HNX.out.exc (hEW.trans hw')) ho hg⟩
      clear hv
      simp only [Act.put, List.setIfInBounds_toArray, List.set_cons_succ, List.set_cons_zero]
      repeat (first | (apply wpR_one; (case ho => (simp only [List.getElem?_toArray, List.getElem?_cons_succ, List.getElem?_cons_zero]; try exact rfl)); (case hw => rfl); (case hl => rfl); (case hsp => rfl); (case he => rfl); (case hv => (intro w' hw'; (try (have hw2 := Ext.trans hEW hw')); (try (have hw3 := Exc.trans hEW hw')); (try (have hw4 := Exk.trans hEW hw')); (try (have hw5 := Mrk.trans hEW hw')); go_simp; exact rfl)); (case hw0 => (first | exact Below.refl _ _ | exact Exc.of_ext (Below.refl _ _) | exact Exk.of_ext (Below.refl _ _) | exact Mrk.of_ext (Below.refl _ _))); simp only [Act.put, List.setIfInBounds_toArray, List.set_cons_succ, List.set_cons_zero]) | (apply wpR_early; (case ho => (simp only [List.getElem?_toArray, List.getElem?_cons_succ, List.getElem?_cons_zero]; try exact rfl)); (case hw => rfl); (case hl => rfl); (case hsp => rfl); (case he => rfl); (case hv => (intro w' hw'; (try have hw2 := Ext.trans hEW hw'); go_simp; exact rfl)); simp only [Act.put, List.setIfInBounds_toArray, List.set_cons_succ, List.set_cons_zero]) | (apply wpR_pass; (case ho => (simp only [List.getElem?_toArray, List.getElem?_cons_succ, List.getElem?_cons_zero]; try exact rfl)); (case hw => rfl); (case hl => rfl); simp only [Act.put, List.setIfInBounds_toArray, List.set_cons_succ, List.set_cons_zero]))
      apply wpR_nil
      apply hN
      intro w5 hE9 hK hF
      have hx5 := hEW.trans hE9
      have hS2 : SR B g cap (swp dk X Y) w5 := by rw [HSW.out]; exact hF
      clear hK hN hF a0 a1 a2 b0 b1 b2 hEW hE9 hW hF0 HSW HFX HFY HS9 HNX HNY hXc hYc
      have HS2 := Lib.hid hS2
      have HE2 := Lib.hid (hE.trans hx5)
      have HQ2 : Hid (SwOf x y (i + 1) d (swp dk X Y)) := Lib.hid (by rw [← HX.out, ← HY.out]; exact HQ.out.step hxy hlt hyb)
      have HP2 : Hid (PermIn x (y + n) d (swp dk X Y)) := Lib.hid (permIn_trans _ _ _ _ _ HP.out (swp_permIn dk x (y + n) X Y (by have := HX.out; omega) (by have := HX.out; omega) (by have := HY.out; omega) (by have := HY.out; omega) (by rw [HDS.out]; exact hyb)))
      clear hS2 hE hx5 hXi hYi iwx iwy hXs hYs hXd hYd
      go_wp2
      go_roundw
      case rel => exact ⟨i + 1, swp dk X Y, by omega, by go_num, HQ2, HP2, HS2.out, HE2.out⟩
      case measure => simp [intOf]; omega
    · obtain rfl : i = n := by omega
      go_wp2
      exact bodyPost_end (by simp [results, Try.results79]) rfl ⟨rfl, dk, HQ.out, HP.out, hS, hE⟩
set_option maxHeartbeats 2000000 in
theorem rotate_any {B g cap a m b : Nat} {d : Array Fr} {w : World} (h : SR B g cap d w) (ham : a < m) (hmb : m < b) (hb : b ≤ d.size) (hsz : d.size ≤ 1048576) :
    Calls Try.prog 78 #[.slice (some ⟨g, 0, none⟩) d.size cap, .int .i64 a, .int .i64 m, .int .i64 b, .func (.func 54) #[] #[]] w fun e w' => e = .returned (.tuple #[]) ∧ ∃ d', RotOf a m b d d' ∧ PermIn a b d d' ∧ SR B g cap d' w' ∧ Exc (DG g) w w' := by
  go_enter Try.func78, Try.ntmps78
  obtain ⟨i0, hi0⟩ : ∃ i : Nat, m - a = i := ⟨_, rfl⟩
  obtain ⟨j0, hj0⟩ : ∃ j : Nat, b - m = j := ⟨_, rfl⟩
  have hi1 : (m : Int) - (a : Int) = (i0 : Int) := by omega
  have hj1 : (b : Int) - (m : Int) = (j0 : Int) := by omega
  have iw1 : IntKind.i64.wrap (i0 : Int) = (i0 : Int) := IntWalk.i64_in _ (by omega)
  have iw2 : IntKind.i64.wrap (j0 : Int) = (j0 : Int) := IntWalk.i64_in _ (by omega)
  have HI0 := Lib.hid hi0
  have HJ0 := Lib.hid hj0
  clear hi0 hj0
  go_wp2
  clear hi1 hj1 iw1 iw2
  go_loopw [10, 11] (fun ii jj wr => ∃ (i j : Nat) (dk : Array Fr), 0 < i ∧ 0 < j ∧ i ≤ i0 ∧ j ≤ j0 ∧ ii = .int .i64 i ∧ jj = .int .i64 j ∧ Hid (∀ d', RotOf (m - i) m (m + j) dk d' → RotOf a m b d d') ∧ Hid (PermIn a b d dk) ∧ SR B g cap dk wr ∧ Exc (DG g) w wr) (fun ii jj _ => (intOf ii).toNat + (intOf jj).toNat)
  case atStart => exact ⟨i0, j0, d, by have := HI0.out; omega, by have := HJ0.out; omega, Nat.le_refl _, Nat.le_refl _, rfl, rfl, Lib.hid (fun d' hd' => by rw [show m - i0 = a by have := HI0.out; omega, show m + j0 = b by have := HJ0.out; omega] at hd'; exact hd'), Lib.hid (permIn_refl d _ _), h, exc_refl _ _⟩
  case round =>
    clear h
    obtain ⟨i, j, dk, hi, hj, hii, hjj, rfl, rfl, HQ, HP, hS, hE⟩ := hrel
    have hds := HP.out.1
    have hi0' := HI0.out
    have hj0' := HJ0.out
    have him : i ≤ m := by omega
    have hmj : m + j ≤ d.size := by omega
    obtain ⟨u, hu⟩ : ∃ u : Nat, m - i = u := ⟨_, rfl⟩
    have hui : (m : Int) - (i : Int) = (u : Int) := by omega
    have iwu : IntKind.i64.wrap (u : Int) = (u : Int) := IntWalk.i64_in _ (by omega)
    have HU := Lib.hid hu
    have HDS := Lib.hid hds
    clear hu hi0' hj0'
    by_cases hne : i = j
    · have hb0 : ((i : Int) != (j : Int)) = false := by simp; omega
      have hc := swapRange_any (x := u) (y := m) (n := i) hS (by have := HU.out; omega) (by rw [hds]; omega) (by rw [hds]; exact hsz)
      rw [hds] at hc
      have HNE := Lib.hid hne
      clear hne hds
      go_wp2_with fail
      refine hc.mono ?_
      rintro e w2 ⟨rfl, d2, h1, h2, h3, h4⟩
      have hR : RotOf a m b d d2 := HQ.out d2 (by rw [← HNE.out]; rw [← HU.out] at h1; exact RotOf.same h1 him)
      have hP : PermIn a b d d2 := permIn_trans _ _ _ _ _ HP.out (permIn_mono _ _ _ _ _ _ (by have := HU.out; have := HI0.out; omega) (by have := HNE.out; have := HJ0.out; omega) (by rw [HDS.out]; exact hb) h2)
      have hR := Lib.hid hR
      have hP := Lib.hid hP
      clear h1 h2 hc
      go_wp2
      exact bodyPost_end (by simp [results, Try.results78]) rfl ⟨rfl, d2, hR.out, hP.out, h3, hE.trans h4⟩
    · have hb0 : ((i : Int) != (j : Int)) = true := by simp; omega
      by_cases hgt : j < i
      · have hgi : (j : Int) < (i : Int) := by omega
        have hc := swapRange_any (x := u) (y := m) (n := j) hS (by have := HU.out; omega) (by rw [hds]; exact hmj) (by rw [hds]; exact hsz)
        rw [hds] at hc
        obtain ⟨i2, hi2⟩ : ∃ k : Nat, i - j = k := ⟨_, rfl⟩
        have hii2 : (i : Int) - (j : Int) = (i2 : Int) := by omega
        have iwi : IntKind.i64.wrap (i2 : Int) = (i2 : Int) := IntWalk.i64_in _ (by omega)
        have HI2 := Lib.hid hi2
        clear hi2 hds
        go_wp2_with fail
        refine hc.mono ?_
        rintro e w2 ⟨rfl, d2, h1, h2, h3, h4⟩
        have HQ2 : Hid (∀ d', RotOf (m - i2) m (m + j) d2 d' → RotOf a m b d d') := Lib.hid (fun d' hd' => HQ.out d' (RotOf.left (by rw [HU.out]; exact h1) (by rw [show m - i + j = m - i2 by have := HI2.out; omega]; exact hd') him hgt))
        have HP2 : Hid (PermIn a b d d2) := Lib.hid (permIn_trans _ _ _ _ _ HP.out (permIn_mono _ _ _ _ _ _ (by have := HU.out; have := HI0.out; omega) (by have := HJ0.out; omega) (by rw [HDS.out]; exact hb) h2))
        have HS3 := Lib.hid h3
        have HE3 := Lib.hid (hE.trans h4)
        clear h1 h2 h3 h4 hc hS hE
        go_wp2
        go_roundw
        case rel => exact ⟨i2, j, d2, by have := HI2.out; omega, hj, by have := HI2.out; omega, hjj, rfl, rfl, HQ2, HP2, HS3.out, HE3.out⟩
        case measure => have := HI2.out; simp [intOf]; omega
      · have hgi : ¬ (j : Int) < (i : Int) := by omega
        obtain ⟨v, hv⟩ : ∃ v : Nat, m + j - i = v := ⟨_, rfl⟩
        obtain ⟨mj, hmj2⟩ : ∃ k : Nat, m + j = k := ⟨_, rfl⟩
        have hmji : (m : Int) + (j : Int) = (mj : Int) := by omega
        have iwm : IntKind.i64.wrap (mj : Int) = (mj : Int) := IntWalk.i64_in _ (by omega)
        have hvi : (mj : Int) - (i : Int) = (v : Int) := by omega
        have iwv : IntKind.i64.wrap (v : Int) = (v : Int) := IntWalk.i64_in _ (by omega)
        have hc := swapRange_any (x := u) (y := v) (n := i) hS (by have := HU.out; omega) (by rw [hds]; omega) (by rw [hds]; exact hsz)
        rw [hds] at hc
        obtain ⟨j2, hj2⟩ : ∃ k : Nat, j - i = k := ⟨_, rfl⟩
        have hjj2 : (j : Int) - (i : Int) = (j2 : Int) := by omega
        have iwj : IntKind.i64.wrap (j2 : Int) = (j2 : Int) := IntWalk.i64_in _ (by omega)
        have HJ2 := Lib.hid hj2
        have HV := Lib.hid hv
        clear hj2 hv hmj2 hds
        go_wp2_with fail
        refine hc.mono ?_
        rintro e w2 ⟨rfl, d2, h1, h2, h3, h4⟩
        have HQ2 : Hid (∀ d', RotOf (m - i) m (m + j2) d2 d' → RotOf a m b d d') := Lib.hid (fun d' hd' => HQ.out d' (RotOf.right (by rw [HU.out, HV.out]; exact h1) (by rw [HJ2.out]; exact hd') him (by omega)))
        have HP2 : Hid (PermIn a b d d2) := Lib.hid (permIn_trans _ _ _ _ _ HP.out (permIn_mono _ _ _ _ _ _ (by have := HU.out; have := HI0.out; omega) (by have := HV.out; have := HJ0.out; omega) (by rw [HDS.out]; exact hb) h2))
        have HS3 := Lib.hid h3
        have HE3 := Lib.hid (hE.trans h4)
        clear h1 h2 h3 h4 hc hS hE
        go_wp2
        go_roundw
        case rel => exact ⟨i, j2, d2, hi, by have := HJ2.out; omega, hii, by have := HJ2.out; omega, rfl, rfl, HQ2, HP2, HS3.out, HE3.out⟩
        case measure => have := HJ2.out; simp [intOf]; omega
end Go.Proofs.Ytijlaknfagpglaa
