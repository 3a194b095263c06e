/- slices.insertionSortCmpFunc over ranges. No condition but sizes. -/
import Derived.Test.YtijlaknfagpglaaSsx
namespace Go.Proofs.Ytijlaknfagpglaa
open Go.RowKit Go.Proofs Go.Sort
set_option linter.unusedVariables false
set_option linter.unusedSimpArgs false
section
variable {α : Type} [Inhabited α] {lt : α → α → Bool}
theorem insI_go (a j : Nat) (d : Array α) (hj : a < j) (hl : lt d[j]! d[j - 1]! = true) : insInner lt a j d = insInner lt a (j - 1) (swp d j (j - 1)) := by
  obtain ⟨k, rfl⟩ : ∃ k, j = k + 1 := ⟨j - 1, by omega⟩
  rw [insInner]
  simp only [Nat.add_sub_cancel] at hl ⊢
  simp [hj, hl]
theorem insI_stop (a j : Nat) (d : Array α) (h : j ≤ a ∨ lt d[j]! d[j - 1]! = false) : insInner lt a j d = d := by
  cases j with
  | zero => rw [insInner]
  | succ k =>
    rw [insInner]
    rcases h with h | h
    · simp [show ¬ k + 1 > a by omega]
    · simp only [Nat.add_sub_cancel] at h
      simp [h]
theorem insO_go (a b i : Nat) (d : Array α) (h : i < b) : insOuter lt a b i d = insOuter lt a b (i + 1) (insInner lt a i d) := by rw [insOuter, if_pos h]
theorem insO_stop (a b i : Nat) (d : Array α) (h : ¬ i < b) : insOuter lt a b i d = d := by rw [insOuter, if_neg h]
end
set_option maxRecDepth 100000 in
set_option maxHeartbeats 4000000 in
theorem insert_any {B g cap a b : Nat} {d : Array Fr} {w : World} (h : SR B g cap d w) (hab : a ≤ b) (hb : b ≤ d.size) (hsz : d.size ≤ 1048576) :
    Calls Try.prog 75 #[.slice (some ⟨g, 0, none⟩) d.size cap, .int .i64 a, .int .i64 b, .func (.func 54) #[] #[]] w fun e w' => e = .returned (.tuple #[]) ∧ ∃ d', (PermIn a b d d' ∧ SortedIn ltF a b d') ∧ SR B g cap d' w' ∧ Exc (DG g) w w' := by
  have hfin := insertionSort_holds (lt := ltF) swo_ltF d a b hab hb
  have HFIN := Lib.hid hfin
  clear hfin
  go_enter Try.func75, Try.ntmps75
  go_wp2
  go_loopw [8] (fun ii wr => ∃ (i : Nat) (dk : Array Fr), a < i ∧ i ≤ b + 1 ∧ ii = .int .i64 i ∧ dk.size = d.size ∧ Hid (insOuter ltF a b i dk = insertionSort ltF d a b) ∧ SR B g cap dk wr ∧ Exc (DG g) w wr) (fun ii _ => b + 1 - (intOf ii).toNat)
  case atStart => exact ⟨a + 1, d, by omega, by omega, by go_num, rfl, Lib.hid rfl, h, exc_refl _ _⟩
  case round =>
    clear h
    obtain ⟨i, dk, hai, hib, rfl, hds, HO, hS, hE⟩ := hrel
    by_cases hlt : i < b
    · have hki : (i : Int) < (b : Int) := by omega
      have HDS := Lib.hid hds
      clear hds
      go_wp2
      go_loopw [9] (fun jj wq => ∃ (j : Nat) (dj : Array Fr), a ≤ j ∧ j ≤ i ∧ jj = .int .i64 j ∧ Hid (dj.size = d.size) ∧ Hid (insInner ltF a j dj = insInner ltF a i dk) ∧ SR B g cap dj wq ∧ Exc (DG g) w wq) (fun jj _ => (intOf jj).toNat)
      case atStart => exact ⟨i, dk, by omega, Nat.le_refl _, rfl, HDS, Lib.hid rfl, hS, hE⟩
      case round =>
        clear hS hE
        rename World => wq
        obtain ⟨j, dj, haj, hji, rfl, HDJ, HI, hS, hE⟩ := hrel
        by_cases hja : a < j
        · have hjai : (a : Int) < (j : Int) := by omega
          obtain ⟨p, hp⟩ : ∃ p : Nat, j - 1 = p := ⟨_, rfl⟩
          have hpi : (j : Int) - 1 = (p : Int) := by omega
          have iwp : IntKind.i64.wrap (p : Int) = (p : Int) := IntWalk.i64_in _ (by omega)
          have hdj := HDJ.out
          have hXs : j < dj.size := by omega
          have hYs : p < dj.size := by omega
          have hXd : j < d.size := by omega
          have hYd : p < d.size := by omega
          have HP := Lib.hid hp
          clear hp hdj
          obtain ⟨fx, hfx⟩ : ∃ f, dj[j]! = f := ⟨_, rfl⟩
          obtain ⟨fy, hfy⟩ : ∃ f, dj[p]! = f := ⟨_, rfl⟩
          have hnx := hS.lo j hXs
          have hny := hS.lo p hYs
          rw [hfx] at hnx
          rw [hfy] at hny
          have hcx := hS.capd
          have hXc : j < cap := by omega
          have hYc : p < cap := by omega
          have HFX := Lib.hid hfx
          have HFY := Lib.hid hfy
          have HS9 := Lib.hid hS
          have HNX := Lib.hid hnx
          have HNY := Lib.hid hny
          clear hfx hfy hS hnx hny hcx
          by_cases hlv : cmpB fx.lo fy.lo < 0
          · have hcv := Lib.hid (show ltF dj[j]! dj[j - 1]! = true by rw [HP.out, HFX.out, HFY.out]; exact decide_eq_true hlv)
            go_wp2
            refine wp_region_rg Ext rel_ext (fun _ => True) [0, 1, 2, 3, 4, 5, 6, 7, 8, 9, 10, 11, 12, 13, 14, 15, 16] (fun i => match i with
              | 14 => some fun _ v w' => v = .int .i64 (cmpB fx.lo fy.lo)
              | _ => none) (fun _ => none) (fun _ => false) (by kernel_rfl) (by kernel_rfl) (fun _ _ _ _ => trivial) trivial (fun W9 N hW _ hN => ?_)
            have hEW : Ext wq W9 := hW
            have a0 : ∀ w', Ext wq w' → w'.cell? ⟨g, j * 3, none⟩ = some (.slice fx.lA fx.lo.length fx.lc) := fun w' h => by rw [← HFX.out]; exact (HS9.out.ext h).c0 hXs
            have a1 : ∀ w', Ext wq w' → w'.cell? ⟨g, j * 3 + 1, none⟩ = some (.slice fx.hA fx.hi.length fx.hc) := fun w' h => by rw [← HFX.out]; exact (HS9.out.ext h).c1 hXs
            have a2 : ∀ w', Ext wq w' → w'.cell? ⟨g, j * 3 + 2, none⟩ = some (.bool fx.op) := fun w' h => by rw [← HFX.out]; exact (HS9.out.ext h).c2 hXs
            have b0 : ∀ w', Ext wq w' → w'.cell? ⟨g, p * 3, none⟩ = some (.slice fy.lA fy.lo.length fy.lc) := fun w' h => by rw [← HFY.out]; exact (HS9.out.ext h).c0 hYs
            have b1 : ∀ w', Ext wq w' → w'.cell? ⟨g, p * 3 + 1, none⟩ = some (.slice fy.hA fy.hi.length fy.hc) := fun w' h => by rw [← HFY.out]; exact (HS9.out.ext h).c1 hYs
            have b2 : ∀ w', Ext wq w' → w'.cell? ⟨g, p * 3 + 2, none⟩ = some (.bool fy.op) := fun w' h => by rw [← HFY.out]; exact (HS9.out.ext h).c2 hYs
            repeat (first | (apply wpR_one; (case ho => (simp only [List.getElem?_toArray, List.getElem?_cons_succ, List.getElem?_cons_zero]; try exact rfl)); (case hw => rfl); (case hl => rfl); (case hsp => rfl); (case he => rfl); (case hv => (intro w' hw'; (try (have hw2 := Ext.trans hEW hw')); (try (have hw3 := Exc.trans hEW hw')); (try (have hw4 := Exk.trans hEW hw')); (try (have hw5 := Mrk.trans hEW hw')); go_simp; exact rfl)); (case hw0 => (first | exact Below.refl _ _ | exact Exc.of_ext (Below.refl _ _) | exact Exk.of_ext (Below.refl _ _) | exact Mrk.of_ext (Below.refl _ _))); simp only [Act.put, List.setIfInBounds_toArray, List.set_cons_succ, List.set_cons_zero]) | (apply wpR_early; (case ho => (simp only [List.getElem?_toArray, List.getElem?_cons_succ, List.getElem?_cons_zero]; try exact rfl)); (case hw => rfl); (case hl => rfl); (case hsp => rfl); (case he => rfl); (case hv => (intro w' hw'; (try have hw2 := Ext.trans hEW hw'); go_simp; exact rfl)); simp only [Act.put, List.setIfInBounds_toArray, List.set_cons_succ, List.set_cons_zero]) | (apply wpR_pass; (case ho => (simp only [List.getElem?_toArray, List.getElem?_cons_succ, List.getElem?_cons_zero]; try exact rfl)); (case hw => rfl); (case hl => rfl); simp only [Act.put, List.setIfInBounds_toArray, List.set_cons_succ, List.set_cons_zero]))
            refine wpR_new (by ((simp only [List.getElem?_toArray, List.getElem?_cons_succ, List.getElem?_cons_zero]; try exact rfl))) _ rfl rfl rfl (fun V v => Lasts.pure) (fun V V' h => rfl) (fun w' hw' hK => ?_) (fun v hv => ?_)
            · have hEE := hEW.trans hw'
              clear hK
              unfold opAt; go_simp; refine upAt_enter ?_
              refine (cov1_any (HNX.out.sl.ext hEE) (HNY.out.sl.ext hEE)).mono ?_
              rintro e w2 ⟨rfl, hE2⟩
              exact ⟨_, rfl, hE2, rfl⟩
            obtain ⟨_, _, _, rfl⟩ := hv
            simp only [Act.put, List.setIfInBounds_toArray, List.set_cons_succ, List.set_cons_zero]
            repeat (first | (apply wpR_one; (case ho => (simp only [List.getElem?_toArray, List.getElem?_cons_succ, List.getElem?_cons_zero]; try exact rfl)); (case hw => rfl); (case hl => rfl); (case hsp => rfl); (case he => rfl); (case hv => (intro w' hw'; (try (have hw2 := Ext.trans hEW hw')); (try (have hw3 := Exc.trans hEW hw')); (try (have hw4 := Exk.trans hEW hw')); (try (have hw5 := Mrk.trans hEW hw')); go_simp; exact rfl)); (case hw0 => (first | exact Below.refl _ _ | exact Exc.of_ext (Below.refl _ _) | exact Exk.of_ext (Below.refl _ _) | exact Mrk.of_ext (Below.refl _ _))); simp only [Act.put, List.setIfInBounds_toArray, List.set_cons_succ, List.set_cons_zero]) | (apply wpR_early; (case ho => (simp only [List.getElem?_toArray, List.getElem?_cons_succ, List.getElem?_cons_zero]; try exact rfl)); (case hw => rfl); (case hl => rfl); (case hsp => rfl); (case he => rfl); (case hv => (intro w' hw'; (try have hw2 := Ext.trans hEW hw'); go_simp; exact rfl)); simp only [Act.put, List.setIfInBounds_toArray, List.set_cons_succ, List.set_cons_zero]) | (apply wpR_pass; (case ho => (simp only [List.getElem?_toArray, List.getElem?_cons_succ, List.getElem?_cons_zero]; try exact rfl)); (case hw => rfl); (case hl => rfl); simp only [Act.put, List.setIfInBounds_toArray, List.set_cons_succ, List.set_cons_zero]))
            apply wpR_nil
            apply hN
            intro w5 hE9 hK _
            have hE5 := hEW.trans hE9
            clear hK hN a0 a1 a2 b0 b1 b2 hEW hE9 hW
            have hS := HS9.out.ext hE5
            have HE5 := Lib.hid (hE.trans (Exc.of_ext hE5))
            clear HFX HFY HS9 HNX HNY hE5 hE
            go_wp2
            obtain ⟨fu, hfu⟩ : ∃ f, dj[j]! = f := ⟨_, rfl⟩
            obtain ⟨fv, hfv⟩ : ∃ f, dj[p]! = f := ⟨_, rfl⟩
            have hnx := hS.lo j hXs
            have hny := hS.lo p hYs
            rw [hfu] at hnx
            rw [hfv] at hny
            have HSW := Lib.hid (show swp dj j p = (dj.setIfInBounds j fv).setIfInBounds p fu by rw [← hfu, ← hfv]; rfl)
            have hcx := hS.capd
            have hXc : j < cap := by omega
            have hYc : p < cap := by omega
            refine wp_region_rg (Exc (DG g)) (rel_exc _) (fun w' => SR B g cap dj w') [0, 1, 2, 3, 4, 5, 6, 7, 8, 9, 10, 11, 12, 13, 14, 15, 16, 17] (fun _ => none) (fun i => match i with
              | 15 => some fun V _ w' => SR B g cap (dj.setIfInBounds j fv) w'
              | 17 => some fun V _ w' => SR B g cap ((dj.setIfInBounds j fv).setIfInBounds p fu) w'
              | _ => none) (fun i => match i with | 9 => true | 13 => true | _ => false) (by kernel_rfl) (by kernel_rfl) (fun _ _ h he => h.ext he) (hS.ext (ext_drew _)) (fun W8 N hW hF0 hN => ?_)
            have hEW : Exc (DG g) w5 W8 := Exc.of_ext hW
            have hF0' : SR B g cap dj W8 := hF0
            have a0 : ∀ w', Ext W8 w' → w'.cell? ⟨g, j * 3, none⟩ = some (.slice fu.lA fu.lo.length fu.lc) := fun w' h => by rw [← hfu]; exact (hF0'.ext h).c0 hXs
            have a1 : ∀ w', Ext W8 w' → w'.cell? ⟨g, j * 3 + 1, none⟩ = some (.slice fu.hA fu.hi.length fu.hc) := fun w' h => by rw [← hfu]; exact (hF0'.ext h).c1 hXs
            have a2 : ∀ w', Ext W8 w' → w'.cell? ⟨g, j * 3 + 2, none⟩ = some (.bool fu.op) := fun w' h => by rw [← hfu]; exact (hF0'.ext h).c2 hXs
            have b0 : ∀ w', Ext W8 w' → w'.cell? ⟨g, p * 3, none⟩ = some (.slice fv.lA fv.lo.length fv.lc) := fun w' h => by rw [← hfv]; exact (hF0'.ext h).c0 hYs
            have b1 : ∀ w', Ext W8 w' → w'.cell? ⟨g, p * 3 + 1, none⟩ = some (.slice fv.hA fv.hi.length fv.hc) := fun w' h => by rw [← hfv]; exact (hF0'.ext h).c1 hYs
            have b2 : ∀ w', Ext W8 w' → w'.cell? ⟨g, p * 3 + 2, none⟩ = some (.bool fv.op) := fun w' h => by rw [← hfv]; exact (hF0'.ext h).c2 hYs
            have HFX := Lib.hid hfu
            have HFY := Lib.hid hfv
            have HS9 := Lib.hid hS
            have HNX := Lib.hid hnx
            have HNY := Lib.hid hny
            clear hfu hfv hS hnx hny hF0' hcx
            repeat (first | (apply wpR_one; (case ho => (simp only [List.getElem?_toArray, List.getElem?_cons_succ, List.getElem?_cons_zero]; try exact rfl)); (case hw => rfl); (case hl => rfl); (case hsp => rfl); (case he => rfl); (case hv => (intro w' hw'; (try (have hw2 := Ext.trans hEW hw')); (try (have hw3 := Exc.trans hEW hw')); (try (have hw4 := Exk.trans hEW hw')); (try (have hw5 := Mrk.trans hEW hw')); go_simp; exact rfl)); (case hw0 => (first | exact Below.refl _ _ | exact Exc.of_ext (Below.refl _ _) | exact Exk.of_ext (Below.refl _ _) | exact Mrk.of_ext (Below.refl _ _))); simp only [Act.put, List.setIfInBounds_toArray, List.set_cons_succ, List.set_cons_zero]) | (apply wpR_early; (case ho => (simp only [List.getElem?_toArray, List.getElem?_cons_succ, List.getElem?_cons_zero]; try exact rfl)); (case hw => rfl); (case hl => rfl); (case hsp => rfl); (case he => rfl); (case hv => (intro w' hw'; (try have hw2 := Ext.trans hEW hw'); go_simp; exact rfl)); simp only [Act.put, List.setIfInBounds_toArray, List.set_cons_succ, List.set_cons_zero]) | (apply wpR_pass; (case ho => (simp only [List.getElem?_toArray, List.getElem?_cons_succ, List.getElem?_cons_zero]; try exact rfl)); (case hw => rfl); (case hl => rfl); simp only [Act.put, List.setIfInBounds_toArray, List.set_cons_succ, List.set_cons_zero]))
            refine wpR_late (by ((simp only [List.getElem?_toArray, List.getElem?_cons_succ, List.getElem?_cons_zero]; try exact rfl))) _ rfl rfl (fun V v w' w2 h he => h.ext he) (fun V V' h => rfl) (fun w' hw' hK hF => ?_) (fun v hv => ?_)
            · have hF1 : SR B g cap dj w' := hF
              refine opAt_list rfl #[] (fun Q hQ => ?_)
              refine wpList_store_own rfl 32 _ _ rfl g dj.size cap (c3 fv) rfl rfl hF1.own hXs rfl (by kernel_rfl) (by simp [Value.oneCell']) (fun w2 ho hg => ?_)
              exact hQ _ _ ⟨Exc.of_only hg (fun _ _ => rfl), hF1.put hXs (HNY.out.exc (hEW.trans hw')) ho hg⟩
            clear hv
            simp only [Act.put, List.setIfInBounds_toArray, List.set_cons_succ, List.set_cons_zero]
            repeat (first | (apply wpR_one; (case ho => (simp only [List.getElem?_toArray, List.getElem?_cons_succ, List.getElem?_cons_zero]; try exact rfl)); (case hw => rfl); (case hl => rfl); (case hsp => rfl); (case he => rfl); (case hv => (intro w' hw'; (try (have hw2 := Ext.trans hEW hw')); (try (have hw3 := Exc.trans hEW hw')); (try (have hw4 := Exk.trans hEW hw')); (try (have hw5 := Mrk.trans hEW hw')); go_simp; exact rfl)); (case hw0 => (first | exact Below.refl _ _ | exact Exc.of_ext (Below.refl _ _) | exact Exk.of_ext (Below.refl _ _) | exact Mrk.of_ext (Below.refl _ _))); simp only [Act.put, List.setIfInBounds_toArray, List.set_cons_succ, List.set_cons_zero]) | (apply wpR_early; (case ho => (simp only [List.getElem?_toArray, List.getElem?_cons_succ, List.getElem?_cons_zero]; try exact rfl)); (case hw => rfl); (case hl => rfl); (case hsp => rfl); (case he => rfl); (case hv => (intro w' hw'; (try have hw2 := Ext.trans hEW hw'); go_simp; exact rfl)); simp only [Act.put, List.setIfInBounds_toArray, List.set_cons_succ, List.set_cons_zero]) | (apply wpR_pass; (case ho => (simp only [List.getElem?_toArray, List.getElem?_cons_succ, List.getElem?_cons_zero]; try exact rfl)); (case hw => rfl); (case hl => rfl); simp only [Act.put, List.setIfInBounds_toArray, List.set_cons_succ, List.set_cons_zero]))
            refine wpR_late (by ((simp only [List.getElem?_toArray, List.getElem?_cons_succ, List.getElem?_cons_zero]; try exact rfl))) _ rfl rfl (fun V v w' w2 h he => h.ext he) (fun V V' h => rfl) (fun w' hw' hK hF => ?_) (fun v hv => ?_)
            · have hF1 : SR B g cap (dj.setIfInBounds j fv) w' := hF
              have hY2 : p < (dj.setIfInBounds j fv).size := by simpa using hYs
              refine opAt_list rfl #[] (fun Q hQ => ?_)
              refine wpList_store_own rfl 32 _ _ rfl g (dj.setIfInBounds j fv).size cap (c3 fu) rfl rfl hF1.own hY2 rfl (by kernel_rfl) (by simp [Value.oneCell']) (fun w2 ho hg => ?_)
              exact hQ _ _ ⟨Exc.of_only hg (fun _ _ => rfl), hF1.put hY2 (HNX.out.exc (hEW.trans hw')) ho hg⟩
            clear hv
            simp only [Act.put, List.setIfInBounds_toArray, List.set_cons_succ, List.set_cons_zero]
            repeat (first | (apply wpR_one; (case ho => (simp only [List.getElem?_toArray, List.getElem?_cons_succ, List.getElem?_cons_zero]; try exact rfl)); (case hw => rfl); (case hl => rfl); (case hsp => rfl); (case he => rfl); (case hv => (intro w' hw'; (try (have hw2 := Ext.trans hEW hw')); (try (have hw3 := Exc.trans hEW hw')); (try (have hw4 := Exk.trans hEW hw')); (try (have hw5 := Mrk.trans hEW hw')); go_simp; exact rfl)); (case hw0 => (first | exact Below.refl _ _ | exact Exc.of_ext (Below.refl _ _) | exact Exk.of_ext (Below.refl _ _) | exact Mrk.of_ext (Below.refl _ _))); simp only [Act.put, List.setIfInBounds_toArray, List.set_cons_succ, List.set_cons_zero]) | (apply wpR_early; (case ho => (simp only [List.getElem?_toArray, List.getElem?_cons_succ, List.getElem?_cons_zero]; try exact rfl)); (case hw => rfl); (case hl => rfl); (case hsp => rfl); (case he => rfl); (case hv => (intro w' hw'; (try have hw2 := Ext.trans hEW hw'); go_simp; exact rfl)); simp only [Act.put, List.setIfInBounds_toArray, List.set_cons_succ, List.set_cons_zero]) | (apply wpR_pass; (case ho => (simp only [List.getElem?_toArray, List.getElem?_cons_succ, List.getElem?_cons_zero]; try exact rfl)); (case hw => rfl); (case hl => rfl); simp only [Act.put, List.setIfInBounds_toArray, List.set_cons_succ, List.set_cons_zero]))
            apply wpR_nil
            apply hN
            intro w6 hE9 hK hF
            have hx6 := hEW.trans hE9
            have hS2 : SR B g cap (swp dj j p) w6 := by rw [HSW.out]; exact hF
            clear hK hN hF a0 a1 a2 b0 b1 b2 hEW hE9 hW hF0 HSW HFX HFY HS9 HNX HNY hXc hYc
            have HS2 := Lib.hid hS2
            have HE2 := Lib.hid (HE5.out.trans hx6)
            have HI2 : Hid (insInner ltF a p (swp dj j p) = insInner ltF a i dk) := Lib.hid (by rw [← HI.out, insI_go a j dj hja hcv.out, HP.out])
            have HD2 : Hid ((swp dj j p).size = d.size) := Lib.hid (by rw [size_swp]; exact HDJ.out)
            have hap : a ≤ p ∧ p < j := by have := HP.out; omega
            clear hS2 hx6 hXs hYs hXd hYd HE5
            go_wp2
            go_roundw
            case rel => exact ⟨p, swp dj j p, hap.1, by omega, by go_num, HD2, HI2, HS2.out, HE2.out⟩
            case measure => have := hap.2; simp [intOf]; omega
          · have hcv : ltF dj[j]! dj[j - 1]! = false := by rw [HP.out, HFX.out, HFY.out]; exact decide_eq_false hlv
            have HO2 : Hid (insOuter ltF a b (i + 1) dj = insertionSort ltF d a b) := Lib.hid (by rw [← HO.out, insO_go _ _ _ _ hlt, ← HI.out, insI_stop a j dj (.inr hcv)])
            clear hcv
            go_wp2
            refine wp_region_rg Ext rel_ext (fun _ => True) [0, 1, 2, 3, 4, 5, 6, 7, 8, 9, 10, 11, 12, 13, 14, 15, 16] (fun i => match i with
              | 14 => some fun _ v w' => v = .int .i64 (cmpB fx.lo fy.lo)
              | _ => none) (fun _ => none) (fun _ => false) (by kernel_rfl) (by kernel_rfl) (fun _ _ _ _ => trivial) trivial (fun W9 N hW _ hN => ?_)
            have hEW : Ext wq W9 := hW
            have a0 : ∀ w', Ext wq w' → w'.cell? ⟨g, j * 3, none⟩ = some (.slice fx.lA fx.lo.length fx.lc) := fun w' h => by rw [← HFX.out]; exact (HS9.out.ext h).c0 hXs
            have a1 : ∀ w', Ext wq w' → w'.cell? ⟨g, j * 3 + 1, none⟩ = some (.slice fx.hA fx.hi.length fx.hc) := fun w' h => by rw [← HFX.out]; exact (HS9.out.ext h).c1 hXs
            have a2 : ∀ w', Ext wq w' → w'.cell? ⟨g, j * 3 + 2, none⟩ = some (.bool fx.op) := fun w' h => by rw [← HFX.out]; exact (HS9.out.ext h).c2 hXs
            have b0 : ∀ w', Ext wq w' → w'.cell? ⟨g, p * 3, none⟩ = some (.slice fy.lA fy.lo.length fy.lc) := fun w' h => by rw [← HFY.out]; exact (HS9.out.ext h).c0 hYs
            have b1 : ∀ w', Ext wq w' → w'.cell? ⟨g, p * 3 + 1, none⟩ = some (.slice fy.hA fy.hi.length fy.hc) := fun w' h => by rw [← HFY.out]; exact (HS9.out.ext h).c1 hYs
            have b2 : ∀ w', Ext wq w' → w'.cell? ⟨g, p * 3 + 2, none⟩ = some (.bool fy.op) := fun w' h => by rw [← HFY.out]; exact (HS9.out.ext h).c2 hYs
            repeat (first | (apply wpR_one; (case ho => (simp only [List.getElem?_toArray, List.getElem?_cons_succ, List.getElem?_cons_zero]; try exact rfl)); (case hw => rfl); (case hl => rfl); (case hsp => rfl); (case he => rfl); (case hv => (intro w' hw'; (try (have hw2 := Ext.trans hEW hw')); (try (have hw3 := Exc.trans hEW hw')); (try (have hw4 := Exk.trans hEW hw')); (try (have hw5 := Mrk.trans hEW hw')); go_simp; exact rfl)); (case hw0 => (first | exact Below.refl _ _ | exact Exc.of_ext (Below.refl _ _) | exact Exk.of_ext (Below.refl _ _) | exact Mrk.of_ext (Below.refl _ _))); simp only [Act.put, List.setIfInBounds_toArray, List.set_cons_succ, List.set_cons_zero]) | (apply wpR_early; (case ho => (simp only [List.getElem?_toArray, List.getElem?_cons_succ, List.getElem?_cons_zero]; try exact rfl)); (case hw => rfl); (case hl => rfl); (case hsp => rfl); (case he => rfl); (case hv => (intro w' hw'; (try have hw2 := Ext.trans hEW hw'); go_simp; exact rfl)); simp only [Act.put, List.setIfInBounds_toArray, List.set_cons_succ, List.set_cons_zero]) | (apply wpR_pass; (case ho => (simp only [List.getElem?_toArray, List.getElem?_cons_succ, List.getElem?_cons_zero]; try exact rfl)); (case hw => rfl); (case hl => rfl); simp only [Act.put, List.setIfInBounds_toArray, List.set_cons_succ, List.set_cons_zero]))
            refine wpR_new (by ((simp only [List.getElem?_toArray, List.getElem?_cons_succ, List.getElem?_cons_zero]; try exact rfl))) _ rfl rfl rfl (fun V v => Lasts.pure) (fun V V' h => rfl) (fun w' hw' hK => ?_) (fun v hv => ?_)
            · have hEE := hEW.trans hw'
              clear hK
              unfold opAt; go_simp; refine upAt_enter ?_
              refine (cov1_any (HNX.out.sl.ext hEE) (HNY.out.sl.ext hEE)).mono ?_
              rintro e w2 ⟨rfl, hE2⟩
              exact ⟨_, rfl, hE2, rfl⟩
            obtain ⟨_, _, _, rfl⟩ := hv
            simp only [Act.put, List.setIfInBounds_toArray, List.set_cons_succ, List.set_cons_zero]
            repeat (first | (apply wpR_one; (case ho => (simp only [List.getElem?_toArray, List.getElem?_cons_succ, List.getElem?_cons_zero]; try exact rfl)); (case hw => rfl); (case hl => rfl); (case hsp => rfl); (case he => rfl); (case hv => (intro w' hw'; (try (have hw2 := Ext.trans hEW hw')); (try (have hw3 := Exc.trans hEW hw')); (try (have hw4 := Exk.trans hEW hw')); (try (have hw5 := Mrk.trans hEW hw')); go_simp; exact rfl)); (case hw0 => (first | exact Below.refl _ _ | exact Exc.of_ext (Below.refl _ _) | exact Exk.of_ext (Below.refl _ _) | exact Mrk.of_ext (Below.refl _ _))); simp only [Act.put, List.setIfInBounds_toArray, List.set_cons_succ, List.set_cons_zero]) | (apply wpR_early; (case ho => (simp only [List.getElem?_toArray, List.getElem?_cons_succ, List.getElem?_cons_zero]; try exact rfl)); (case hw => rfl); (case hl => rfl); (case hsp => rfl); (case he => rfl); (case hv => (intro w' hw'; (try have hw2 := Ext.trans hEW hw'); go_simp; exact rfl)); simp only [Act.put, List.setIfInBounds_toArray, List.set_cons_succ, List.set_cons_zero]) | (apply wpR_pass; (case ho => (simp only [List.getElem?_toArray, List.getElem?_cons_succ, List.getElem?_cons_zero]; try exact rfl)); (case hw => rfl); (case hl => rfl); simp only [Act.put, List.setIfInBounds_toArray, List.set_cons_succ, List.set_cons_zero]))
            apply wpR_nil
            apply hN
            intro w5 hE9 hK _
            have hE5 := hEW.trans hE9
            clear hK hN a0 a1 a2 b0 b1 b2 hEW hE9 hW
            have HS2 := Lib.hid (HS9.out.ext hE5)
            have HE2 := Lib.hid (hE.trans (Exc.of_ext hE5))
            clear HFX HFY HS9 HNX HNY hE5 hE
            go_wp2
            go_roundw
            case rel => exact ⟨i + 1, dj, by omega, by omega, by go_num, HDJ.out, HO2, HS2.out, HE2.out⟩
            case measure => simp [intOf]; omega
        · have hjai : ¬ (a : Int) < (j : Int) := by omega
          have hjai2 : decide ((j : Int) > (a : Int)) = false := decide_eq_false (by omega)
          have HO2 : Hid (insOuter ltF a b (i + 1) dj = insertionSort ltF d a b) := Lib.hid (by rw [← HO.out, insO_go _ _ _ _ hlt, ← HI.out, insI_stop a j dj (.inl (by omega))])
          have HS9 := Lib.hid hS
          clear hS
          go_wp2
          refine wp_region_rg Ext rel_ext (fun _ => True) [0, 1, 2, 3, 4, 5, 6, 7, 8, 9, 10, 11, 12, 13, 14, 15, 16] (fun _ => none) (fun _ => none) (fun _ => false) (by kernel_rfl) (by kernel_rfl) (fun _ _ _ _ => trivial) trivial (fun W9 N hW _ hN => ?_)
          have hEW : Ext wq W9 := hW
          repeat (first | (apply wpR_one; (case ho => (simp only [List.getElem?_toArray, List.getElem?_cons_succ, List.getElem?_cons_zero]; try exact rfl)); (case hw => rfl); (case hl => rfl); (case hsp => rfl); (case he => rfl); (case hv => (intro w' hw'; (try (have hw2 := Ext.trans hEW hw')); (try (have hw3 := Exc.trans hEW hw')); (try (have hw4 := Exk.trans hEW hw')); (try (have hw5 := Mrk.trans hEW hw')); go_simp; exact rfl)); (case hw0 => (first | exact Below.refl _ _ | exact Exc.of_ext (Below.refl _ _) | exact Exk.of_ext (Below.refl _ _) | exact Mrk.of_ext (Below.refl _ _))); simp only [Act.put, List.setIfInBounds_toArray, List.set_cons_succ, List.set_cons_zero]) | (apply wpR_early; (case ho => (simp only [List.getElem?_toArray, List.getElem?_cons_succ, List.getElem?_cons_zero]; try exact rfl)); (case hw => rfl); (case hl => rfl); (case hsp => rfl); (case he => rfl); (case hv => (intro w' hw'; (try have hw2 := Ext.trans hEW hw'); go_simp; exact rfl)); simp only [Act.put, List.setIfInBounds_toArray, List.set_cons_succ, List.set_cons_zero]) | (apply wpR_pass; (case ho => (simp only [List.getElem?_toArray, List.getElem?_cons_succ, List.getElem?_cons_zero]; try exact rfl)); (case hw => rfl); (case hl => rfl); simp only [Act.put, List.setIfInBounds_toArray, List.set_cons_succ, List.set_cons_zero]))
          apply wpR_nil
          apply hN
          intro w5 hE9 hK _
          have hE5 := hEW.trans hE9
          have HS2 := Lib.hid (HS9.out.ext hE5)
          have HE2 := Lib.hid (hE.trans (Exc.of_ext hE5))
          clear hK hN hEW hE9 hW HS9 hE5 hE
          go_wp2
          go_roundw
          case rel => exact ⟨i + 1, dj, by omega, by omega, by go_num, HDJ.out, HO2, HS2.out, HE2.out⟩
          case measure => simp [intOf]; omega
    · have hki : ¬ (i : Int) < (b : Int) := by omega
      have HE2 : Hid (dk = insertionSort ltF d a b) := Lib.hid (by rw [← HO.out, insO_stop _ _ _ _ hlt])
      go_wp2
      exact bodyPost_end (by simp [results, Try.results75]) rfl ⟨rfl, dk, by rw [HE2.out]; exact HFIN.out, hS, hE⟩
end Go.Proofs.Ytijlaknfagpglaa
