/- slices.symMergeCmpFunc over ranges. No condition but sizes. -/
import Derived.Test.YtijlaknfagpglaaSsi
namespace Go.Proofs.Ytijlaknfagpglaa
open Go.RowKit Go.Proofs Go.Sort
set_option linter.unusedVariables false
set_option linter.unusedSimpArgs false
section
variable {α : Type} [Inhabited α] {lt : α → α → Bool} {a s m mid en b : Nat} {d d1 d2 d3 : Array α}
theorem RotOf.triv (h1 : s ≤ m) (h2 : m ≤ en) (h : s = m ∨ en = m) : RotOf s m en d d := by
  refine ⟨rfl, fun k => ?_⟩
  (repeat' split) <;> first | exact at_eq d (by omega) | (exfalso; omega)
theorem sorted_keep (h : SortedIn lt a b d) (hk : ∀ i, a ≤ i → i < b → d1[i]! = d[i]!) : SortedIn lt a b d1 := fun i j hi hij hj => by
  rw [hk i hi (by omega), hk j (by omega) hj]
  exact h i j hi hij hj
theorem sym_left0 (c : Cut4 lt a s mid en b d1) (h : s ≤ a ∨ mid ≤ s) (has : a ≤ s) (hsm : s ≤ mid) : SortedIn lt a mid d1 := by
  rcases h with h | h
  · have : s = a := by omega
    have h2 := c.s2
    rwa [this] at h2
  · have : s = mid := by omega
    have h2 := c.s1
    rwa [this] at h2
theorem sym_right0 (c : Cut4 lt a s mid en b d1) (h : en ≤ mid ∨ b ≤ en) (hme : mid ≤ en) (heb : en ≤ b) : SortedIn lt mid b d1 := by
  rcases h with h | h
  · have : en = mid := by omega
    have h2 := c.s4
    rwa [this] at h2
  · have : en = b := by omega
    have h2 := c.s3
    rwa [this] at h2
theorem sym_fin (hb : b ≤ d.size) (hp0 : PermIn a b d d1) (c : Cut4 lt a s mid en b d1) (ham : a ≤ mid) (hmb : mid ≤ b) (hp1 : PermIn a mid d1 d2) (hs1 : SortedIn lt a mid d2) (hp2 : PermIn mid b d2 d3) (hs2 : SortedIn lt mid b d3) : PermIn a b d d3 ∧ SortedIn lt a b d3 := by
  have hz1 := hp0.1
  have hz2 := hp1.1
  refine ⟨permIn_trans _ _ _ _ _ hp0 (permIn_trans _ _ _ _ _ (permIn_mono _ _ _ _ _ _ (Nat.le_refl _) hmb (by omega) hp1) (permIn_mono _ _ _ _ _ _ ham (Nat.le_refl _) (by omega) hp2)), ?_⟩
  exact sorted_glue2 (sorted_keep hs1 (fun i _ hi => hp2.2.1 i (.inl hi))) hs2 (cross_perm (by omega) hmb c.cross hp1 hp2)
end
set_option maxRecDepth 100000 in
set_option maxHeartbeats 8000000 in
theorem symMerge_aux {B g cap : Nat} : ∀ (N a m b : Nat) (d : Array Fr) (w : World), b - a ≤ N → a < m → m < b → b ≤ d.size → d.size ≤ 1048576 → SR B g cap d w → SortedIn ltF a m d → SortedIn ltF m b d →
    Calls Try.prog 76 #[.slice (some ⟨g, 0, none⟩) d.size cap, .int .i64 a, .int .i64 m, .int .i64 b, .func (.func 54) #[] #[]] w fun e w' => e = .returned (.tuple #[]) ∧ ∃ d', (PermIn a b d d' ∧ SortedIn ltF a b d') ∧ SR B g cap d' w' ∧ Exc (DG g) w w' := by
  intro N
  induction N with
  | zero => intro a m b d w h1 h2 h3; omega
  | succ N ih =>
    intro a m b d w hN ham hmb hb hsz h hs1 hs2
    have IH := Lib.hid ih
    have HS1 := Lib.hid hs1
    have HS2 := Lib.hid hs2
    clear ih hs1 hs2
    go_enter Try.func76, Try.ntmps76
    obtain ⟨ma, hma⟩ : ∃ k : Nat, m - a = k := ⟨_, rfl⟩
    have hmai : (m : Int) - (a : Int) = (ma : Int) := by omega
    have iwma : IntKind.i64.wrap (ma : Int) = (ma : Int) := IntWalk.i64_in _ (by omega)
    by_cases c1 : ma = 1
    · have hb1 : ((ma : Int) == 1) = true := by simp; omega
      have hm : m = a + 1 := by omega
      have HM := Lib.hid hm
      clear c1 hma hm
      go_wp2
      clear hb1 hmai iwma
      go_loopw [10, 11] (fun ii jj wr => ∃ (i j : Nat), m ≤ i ∧ i ≤ j ∧ j ≤ b ∧ ii = .int .i64 i ∧ jj = .int .i64 j ∧ Hid (FindLo ltF a m b i j d) ∧ SR B g cap d wr ∧ Exc (DG g) w wr) (fun ii jj _ => (intOf jj).toNat - (intOf ii).toNat)
      case atStart => exact ⟨m, b, Nat.le_refl _, by omega, Nat.le_refl _, rfl, rfl, Lib.hid (FindLo.start _ _ _ _ _), h, exc_refl _ _⟩
      case round =>
        clear h
        obtain ⟨i, j, hmi, hij, hjb, rfl, rfl, HF, hS, hE⟩ := hrel
        by_cases hlt : i < j
        · have hki : (i : Int) < (j : Int) := by omega
          obtain ⟨s, hs⟩ : ∃ s : Nat, i + j = s := ⟨_, rfl⟩
          obtain ⟨h, hh⟩ : ∃ h : Nat, s / 2 = h := ⟨_, rfl⟩
          have hsi : (i : Int) + (j : Int) = (s : Int) := by omega
          have hhi : (s : Int) / 2 = (h : Int) := by omega
          have iws : IntKind.i64.wrap (s : Int) = (s : Int) := IntWalk.i64_in _ (by omega)
          have hih : i ≤ h ∧ h < j := by omega
          clear hs hh
          have hXs : h < d.size := by omega
          have hYs : a < d.size := by omega
          have hXd : h < d.size := by omega
          have hYd : a < d.size := by omega
          obtain ⟨fx, hfx⟩ : ∃ f, d[h]! = f := ⟨_, rfl⟩
          obtain ⟨fy, hfy⟩ : ∃ f, d[a]! = f := ⟨_, rfl⟩
          have hnx := hS.lo h hXs
          have hny := hS.lo a hYs
          rw [hfx] at hnx
          rw [hfy] at hny
          have hcx := hS.capd
          have hXc : h < cap := by omega
          have hYc : a < cap := by omega
          have HFX := Lib.hid hfx
          have HFY := Lib.hid hfy
          have HS9 := Lib.hid hS
          have HNX := Lib.hid hnx
          have HNY := Lib.hid hny
          clear hfx hfy hS hnx hny hcx
          by_cases hlv : cmpB fx.lo fy.lo < 0
          · have hcv : ltF d[h]! d[a]! = true := by rw [HFX.out, HFY.out]; exact decide_eq_true hlv
            have hdec : decide (cmpB fx.lo fy.lo < 0) = true := decide_eq_true hlv
            have HF2 := Lib.hid (HF.out.up swo_ltF HS2.out (show h < b by omega) hcv)
            clear hcv
            go_wp2
            refine wp_region_rg Ext rel_ext (fun _ => True) [0, 1, 2, 3, 4, 5, 6, 7, 8, 9, 10] (fun i => match i with
              | 9 => some fun _ v w' => v = .int .i64 (cmpB fx.lo fy.lo)
              | _ => none) (fun _ => none) (fun _ => false) (by kernel_rfl) (by kernel_rfl) (fun _ _ _ _ => trivial) trivial (fun W9 N hW _ hN => ?_)
            have hEW : Ext wr W9 := hW
            have a0 : ∀ w', Ext wr w' → w'.cell? ⟨g, h * 3, none⟩ = some (.slice fx.lA fx.lo.length fx.lc) := fun w' h => by rw [← HFX.out]; exact (HS9.out.ext h).c0 hXs
            have a1 : ∀ w', Ext wr w' → w'.cell? ⟨g, h * 3 + 1, none⟩ = some (.slice fx.hA fx.hi.length fx.hc) := fun w' h => by rw [← HFX.out]; exact (HS9.out.ext h).c1 hXs
            have a2 : ∀ w', Ext wr w' → w'.cell? ⟨g, h * 3 + 2, none⟩ = some (.bool fx.op) := fun w' h => by rw [← HFX.out]; exact (HS9.out.ext h).c2 hXs
            have b0 : ∀ w', Ext wr w' → w'.cell? ⟨g, a * 3, none⟩ = some (.slice fy.lA fy.lo.length fy.lc) := fun w' h => by rw [← HFY.out]; exact (HS9.out.ext h).c0 hYs
            have b1 : ∀ w', Ext wr w' → w'.cell? ⟨g, a * 3 + 1, none⟩ = some (.slice fy.hA fy.hi.length fy.hc) := fun w' h => by rw [← HFY.out]; exact (HS9.out.ext h).c1 hYs
            have b2 : ∀ w', Ext wr w' → w'.cell? ⟨g, a * 3 + 2, none⟩ = some (.bool fy.op) := fun w' h => by rw [← HFY.out]; exact (HS9.out.ext h).c2 hYs
            repeat (first | (apply wpR_one; (case ho => (simp only [List.getElem?_toArray, List.getElem?_cons_succ, List.getElem?_cons_zero]; try exact rfl)); (case hw => rfl); (case hl => rfl); (case hsp => rfl); (case he => rfl); (case hv => (intro w' hw'; (try (have hw2 := Ext.trans hEW hw')); (try (have hw3 := Exc.trans hEW hw')); (try (have hw4 := Exk.trans hEW hw')); (try (have hw5 := Mrk.trans hEW hw')); go_simp; exact rfl)); (case hw0 => (first | exact Below.refl _ _ | exact Exc.of_ext (Below.refl _ _) | exact Exk.of_ext (Below.refl _ _) | exact Mrk.of_ext (Below.refl _ _))); simp only [Act.put, List.setIfInBounds_toArray, List.set_cons_succ, List.set_cons_zero]) | (apply wpR_early; (case ho => (simp only [List.getElem?_toArray, List.getElem?_cons_succ, List.getElem?_cons_zero]; try exact rfl)); (case hw => rfl); (case hl => rfl); (case hsp => rfl); (case he => rfl); (case hv => (intro w' hw'; (try have hw2 := Ext.trans hEW hw'); go_simp; exact rfl)); simp only [Act.put, List.setIfInBounds_toArray, List.set_cons_succ, List.set_cons_zero]) | (apply wpR_pass; (case ho => (simp only [List.getElem?_toArray, List.getElem?_cons_succ, List.getElem?_cons_zero]; try exact rfl)); (case hw => rfl); (case hl => rfl); simp only [Act.put, List.setIfInBounds_toArray, List.set_cons_succ, List.set_cons_zero]))
            refine wpR_new (by ((simp only [List.getElem?_toArray, List.getElem?_cons_succ, List.getElem?_cons_zero]; try exact rfl))) _ rfl rfl rfl (fun V v => Lasts.pure) (fun V V' h => rfl) (fun w' hw' hK => ?_) (fun v hv => ?_)
            · have hEE := hEW.trans hw'
              clear hK
              unfold opAt; go_simp; refine upAt_enter ?_
              refine (cov1_any (HNX.out.sl.ext hEE) (HNY.out.sl.ext hEE)).mono ?_
              rintro e w2 ⟨rfl, hE2⟩
              exact ⟨_, rfl, hE2, rfl⟩
            obtain ⟨_, _, _, rfl⟩ := hv
            simp only [Act.put, List.setIfInBounds_toArray, List.set_cons_succ, List.set_cons_zero]
            repeat (first | (apply wpR_one; (case ho => (simp only [List.getElem?_toArray, List.getElem?_cons_succ, List.getElem?_cons_zero]; try exact rfl)); (case hw => rfl); (case hl => rfl); (case hsp => rfl); (case he => rfl); (case hv => (intro w' hw'; (try (have hw2 := Ext.trans hEW hw')); (try (have hw3 := Exc.trans hEW hw')); (try (have hw4 := Exk.trans hEW hw')); (try (have hw5 := Mrk.trans hEW hw')); go_simp; exact rfl)); (case hw0 => (first | exact Below.refl _ _ | exact Exc.of_ext (Below.refl _ _) | exact Exk.of_ext (Below.refl _ _) | exact Mrk.of_ext (Below.refl _ _))); simp only [Act.put, List.setIfInBounds_toArray, List.set_cons_succ, List.set_cons_zero]) | (apply wpR_early; (case ho => (simp only [List.getElem?_toArray, List.getElem?_cons_succ, List.getElem?_cons_zero]; try exact rfl)); (case hw => rfl); (case hl => rfl); (case hsp => rfl); (case he => rfl); (case hv => (intro w' hw'; (try have hw2 := Ext.trans hEW hw'); go_simp; exact rfl)); simp only [Act.put, List.setIfInBounds_toArray, List.set_cons_succ, List.set_cons_zero]) | (apply wpR_pass; (case ho => (simp only [List.getElem?_toArray, List.getElem?_cons_succ, List.getElem?_cons_zero]; try exact rfl)); (case hw => rfl); (case hl => rfl); simp only [Act.put, List.setIfInBounds_toArray, List.set_cons_succ, List.set_cons_zero]))
            apply wpR_nil
            apply hN
            intro w5 hE9 hK _
            have hE5 := hEW.trans hE9
            clear hK hN a0 a1 a2 b0 b1 b2 hEW hE9 hW
            have HS8 := Lib.hid (HS9.out.ext hE5)
            have HE8 := Lib.hid (hE.trans (Exc.of_ext hE5))
            clear HFX HFY HS9 HNX HNY hE5 hE
            go_wp2
            go_roundw
            case rel => exact ⟨h + 1, j, by omega, by omega, hjb, by go_num, rfl, HF2, HS8.out, HE8.out⟩
            case measure => simp [intOf]; omega
          · have hcv : ltF d[h]! d[a]! = false := by rw [HFX.out, HFY.out]; exact decide_eq_false hlv
            have hdec : decide (cmpB fx.lo fy.lo < 0) = false := decide_eq_false hlv
            have HF2 := Lib.hid (HF.out.down swo_ltF HS2.out (show m ≤ h by omega) hcv)
            clear hcv
            go_wp2
            refine wp_region_rg Ext rel_ext (fun _ => True) [0, 1, 2, 3, 4, 5, 6, 7, 8, 9, 10] (fun i => match i with
              | 9 => some fun _ v w' => v = .int .i64 (cmpB fx.lo fy.lo)
              | _ => none) (fun _ => none) (fun _ => false) (by kernel_rfl) (by kernel_rfl) (fun _ _ _ _ => trivial) trivial (fun W9 N hW _ hN => ?_)
            have hEW : Ext wr W9 := hW
            have a0 : ∀ w', Ext wr w' → w'.cell? ⟨g, h * 3, none⟩ = some (.slice fx.lA fx.lo.length fx.lc) := fun w' h => by rw [← HFX.out]; exact (HS9.out.ext h).c0 hXs
            have a1 : ∀ w', Ext wr w' → w'.cell? ⟨g, h * 3 + 1, none⟩ = some (.slice fx.hA fx.hi.length fx.hc) := fun w' h => by rw [← HFX.out]; exact (HS9.out.ext h).c1 hXs
            have a2 : ∀ w', Ext wr w' → w'.cell? ⟨g, h * 3 + 2, none⟩ = some (.bool fx.op) := fun w' h => by rw [← HFX.out]; exact (HS9.out.ext h).c2 hXs
            have b0 : ∀ w', Ext wr w' → w'.cell? ⟨g, a * 3, none⟩ = some (.slice fy.lA fy.lo.length fy.lc) := fun w' h => by rw [← HFY.out]; exact (HS9.out.ext h).c0 hYs
            have b1 : ∀ w', Ext wr w' → w'.cell? ⟨g, a * 3 + 1, none⟩ = some (.slice fy.hA fy.hi.length fy.hc) := fun w' h => by rw [← HFY.out]; exact (HS9.out.ext h).c1 hYs
            have b2 : ∀ w', Ext wr w' → w'.cell? ⟨g, a * 3 + 2, none⟩ = some (.bool fy.op) := fun w' h => by rw [← HFY.out]; exact (HS9.out.ext h).c2 hYs
            repeat (first | (apply wpR_one; (case ho => (simp only [List.getElem?_toArray, List.getElem?_cons_succ, List.getElem?_cons_zero]; try exact rfl)); (case hw => rfl); (case hl => rfl); (case hsp => rfl); (case he => rfl); (case hv => (intro w' hw'; (try (have hw2 := Ext.trans hEW hw')); (try (have hw3 := Exc.trans hEW hw')); (try (have hw4 := Exk.trans hEW hw')); (try (have hw5 := Mrk.trans hEW hw')); go_simp; exact rfl)); (case hw0 => (first | exact Below.refl _ _ | exact Exc.of_ext (Below.refl _ _) | exact Exk.of_ext (Below.refl _ _) | exact Mrk.of_ext (Below.refl _ _))); simp only [Act.put, List.setIfInBounds_toArray, List.set_cons_succ, List.set_cons_zero]) | (apply wpR_early; (case ho => (simp only [List.getElem?_toArray, List.getElem?_cons_succ, List.getElem?_cons_zero]; try exact rfl)); (case hw => rfl); (case hl => rfl); (case hsp => rfl); (case he => rfl); (case hv => (intro w' hw'; (try have hw2 := Ext.trans hEW hw'); go_simp; exact rfl)); simp only [Act.put, List.setIfInBounds_toArray, List.set_cons_succ, List.set_cons_zero]) | (apply wpR_pass; (case ho => (simp only [List.getElem?_toArray, List.getElem?_cons_succ, List.getElem?_cons_zero]; try exact rfl)); (case hw => rfl); (case hl => rfl); simp only [Act.put, List.setIfInBounds_toArray, List.set_cons_succ, List.set_cons_zero]))
            refine wpR_new (by ((simp only [List.getElem?_toArray, List.getElem?_cons_succ, List.getElem?_cons_zero]; try exact rfl))) _ rfl rfl rfl (fun V v => Lasts.pure) (fun V V' h => rfl) (fun w' hw' hK => ?_) (fun v hv => ?_)
            · have hEE := hEW.trans hw'
              clear hK
              unfold opAt; go_simp; refine upAt_enter ?_
              refine (cov1_any (HNX.out.sl.ext hEE) (HNY.out.sl.ext hEE)).mono ?_
              rintro e w2 ⟨rfl, hE2⟩
              exact ⟨_, rfl, hE2, rfl⟩
            obtain ⟨_, _, _, rfl⟩ := hv
            simp only [Act.put, List.setIfInBounds_toArray, List.set_cons_succ, List.set_cons_zero]
            repeat (first | (apply wpR_one; (case ho => (simp only [List.getElem?_toArray, List.getElem?_cons_succ, List.getElem?_cons_zero]; try exact rfl)); (case hw => rfl); (case hl => rfl); (case hsp => rfl); (case he => rfl); (case hv => (intro w' hw'; (try (have hw2 := Ext.trans hEW hw')); (try (have hw3 := Exc.trans hEW hw')); (try (have hw4 := Exk.trans hEW hw')); (try (have hw5 := Mrk.trans hEW hw')); go_simp; exact rfl)); (case hw0 => (first | exact Below.refl _ _ | exact Exc.of_ext (Below.refl _ _) | exact Exk.of_ext (Below.refl _ _) | exact Mrk.of_ext (Below.refl _ _))); simp only [Act.put, List.setIfInBounds_toArray, List.set_cons_succ, List.set_cons_zero]) | (apply wpR_early; (case ho => (simp only [List.getElem?_toArray, List.getElem?_cons_succ, List.getElem?_cons_zero]; try exact rfl)); (case hw => rfl); (case hl => rfl); (case hsp => rfl); (case he => rfl); (case hv => (intro w' hw'; (try have hw2 := Ext.trans hEW hw'); go_simp; exact rfl)); simp only [Act.put, List.setIfInBounds_toArray, List.set_cons_succ, List.set_cons_zero]) | (apply wpR_pass; (case ho => (simp only [List.getElem?_toArray, List.getElem?_cons_succ, List.getElem?_cons_zero]; try exact rfl)); (case hw => rfl); (case hl => rfl); simp only [Act.put, List.setIfInBounds_toArray, List.set_cons_succ, List.set_cons_zero]))
            apply wpR_nil
            apply hN
            intro w5 hE9 hK _
            have hE5 := hEW.trans hE9
            clear hK hN a0 a1 a2 b0 b1 b2 hEW hE9 hW
            have HS8 := Lib.hid (HS9.out.ext hE5)
            have HE8 := Lib.hid (hE.trans (Exc.of_ext hE5))
            clear HFX HFY HS9 HNX HNY hE5 hE
            go_wp2
            go_roundw
            case rel => exact ⟨i, h, hmi, by omega, by omega, rfl, rfl, HF2, HS8.out, HE8.out⟩
            case measure => simp [intOf]; omega
        · obtain rfl : i = j := by omega
          obtain ⟨i1, hi1⟩ : ∃ k : Nat, i - 1 = k := ⟨_, rfl⟩
          have hai1 : a ≤ i1 := by have := HM.out; omega
          have hi1i : (i : Int) - 1 = (i1 : Int) := by have := HM.out; omega
          have iwi1 : IntKind.i64.wrap (i1 : Int) = (i1 : Int) := IntWalk.i64_in _ (by omega)
          have hi1b : i1 < b := by have := HM.out; omega
          have HI1 := Lib.hid hi1
          have HIJ := Lib.hid (show m ≤ i ∧ i ≤ b by omega)
          clear hi1 hlt
          go_wp2
          go_loopw [13] (fun kk wr => ∃ (k : Nat) (dk : Array Fr), a ≤ k ∧ k ≤ i1 ∧ kk = .int .i64 k ∧ Hid (MvUp a k d dk) ∧ Hid (PermIn a b d dk) ∧ SR B g cap dk wr ∧ Exc (DG g) w wr) (fun kk _ => i1 - (intOf kk).toNat)
          case atStart => exact ⟨a, d, Nat.le_refl _, hai1, rfl, Lib.hid (MvUp.start a d), Lib.hid (permIn_refl d _ _), hS, hE⟩
          case round =>
            clear hS hE
            obtain ⟨k, dk, hak, hki1, rfl, HMv, HPk, hS, hE⟩ := hrel
            have hds := HMv.out.size
            by_cases hltk : k < i1
            · have hkk : (k : Int) < (i1 : Int) := by omega
              obtain ⟨k2, hk2⟩ : ∃ k2 : Nat, k + 1 = k2 := ⟨_, rfl⟩
              have hk2i : (k : Int) + 1 = (k2 : Int) := by omega
              have iwk2 : IntKind.i64.wrap (k2 : Int) = (k2 : Int) := IntWalk.i64_in _ (by omega)
              have hXs : k < dk.size := by omega
              have hYs : k2 < dk.size := by omega
              have hXd : k < d.size := by omega
              have hYd : k2 < d.size := by omega
              have hk2b : k2 < b := by omega
              have HK2 := Lib.hid hk2
              have HDS := Lib.hid hds
              clear hk2 hds
              go_wp2
              obtain ⟨fx, hfx⟩ : ∃ f, dk[k]! = f := ⟨_, rfl⟩
              obtain ⟨fy, hfy⟩ : ∃ f, dk[k2]! = f := ⟨_, rfl⟩
              have hnx := hS.lo k hXs
              have hny := hS.lo k2 hYs
              rw [hfx] at hnx
              rw [hfy] at hny
              have HSW := Lib.hid (show swp dk k k2 = (dk.setIfInBounds k fy).setIfInBounds k2 fx by rw [← hfx, ← hfy]; rfl)
              have hcx := hS.capd
              have hXc : k < cap := by omega
              have hYc : k2 < cap := by omega
              refine wp_region_rg (Exc (DG g)) (rel_exc _) (fun w' => SR B g cap dk w') [0, 1, 2, 3, 4, 5, 6, 7, 8, 9, 10, 11, 12, 13, 14, 15, 16, 17] (fun _ => none) (fun i => match i with
                | 15 => some fun V _ w' => SR B g cap (dk.setIfInBounds k fy) w'
                | 17 => some fun V _ w' => SR B g cap ((dk.setIfInBounds k fy).setIfInBounds k2 fx) w'
                | _ => none) (fun i => match i with | 9 => true | 13 => true | _ => false) (by kernel_rfl) (by kernel_rfl) (fun _ _ h he => h.ext he) (hS.ext (ext_drew _)) (fun W9 N hW hF0 hN => ?_)
              have hEW : Exc (DG g) wr W9 := Exc.of_ext hW
              have hF0' : SR B g cap dk W9 := hF0
              have a0 : ∀ w', Ext W9 w' → w'.cell? ⟨g, k * 3, none⟩ = some (.slice fx.lA fx.lo.length fx.lc) := fun w' h => by rw [← hfx]; exact (hF0'.ext h).c0 hXs
              have a1 : ∀ w', Ext W9 w' → w'.cell? ⟨g, k * 3 + 1, none⟩ = some (.slice fx.hA fx.hi.length fx.hc) := fun w' h => by rw [← hfx]; exact (hF0'.ext h).c1 hXs
              have a2 : ∀ w', Ext W9 w' → w'.cell? ⟨g, k * 3 + 2, none⟩ = some (.bool fx.op) := fun w' h => by rw [← hfx]; exact (hF0'.ext h).c2 hXs
              have b0 : ∀ w', Ext W9 w' → w'.cell? ⟨g, k2 * 3, none⟩ = some (.slice fy.lA fy.lo.length fy.lc) := fun w' h => by rw [← hfy]; exact (hF0'.ext h).c0 hYs
              have b1 : ∀ w', Ext W9 w' → w'.cell? ⟨g, k2 * 3 + 1, none⟩ = some (.slice fy.hA fy.hi.length fy.hc) := fun w' h => by rw [← hfy]; exact (hF0'.ext h).c1 hYs
              have b2 : ∀ w', Ext W9 w' → w'.cell? ⟨g, k2 * 3 + 2, none⟩ = some (.bool fy.op) := fun w' h => by rw [← hfy]; exact (hF0'.ext h).c2 hYs
              have HFX := Lib.hid hfx
              have HFY := Lib.hid hfy
              have HS9 := Lib.hid hS
              have HNX := Lib.hid hnx
              have HNY := Lib.hid hny
              clear hfx hfy hS hnx hny hF0' hcx
              repeat (first | (apply wpR_one; (case ho => (simp only [List.getElem?_toArray, List.getElem?_cons_succ, List.getElem?_cons_zero]; try exact rfl)); (case hw => rfl); (case hl => rfl); (case hsp => rfl); (case he => rfl); (case hv => (intro w' hw'; (try (have hw2 := Ext.trans hEW hw')); (try (have hw3 := Exc.trans hEW hw')); (try (have hw4 := Exk.trans hEW hw')); (try (have hw5 := Mrk.trans hEW hw')); go_simp; exact rfl)); (case hw0 => (first | exact Below.refl _ _ | exact Exc.of_ext (Below.refl _ _) | exact Exk.of_ext (Below.refl _ _) | exact Mrk.of_ext (Below.refl _ _))); simp only [Act.put, List.setIfInBounds_toArray, List.set_cons_succ, List.set_cons_zero]) | (apply wpR_early; (case ho => (simp only [List.getElem?_toArray, List.getElem?_cons_succ, List.getElem?_cons_zero]; try exact rfl)); (case hw => rfl); (case hl => rfl); (case hsp => rfl); (case he => rfl); (case hv => (intro w' hw'; (try have hw2 := Ext.trans hEW hw'); go_simp; exact rfl)); simp only [Act.put, List.setIfInBounds_toArray, List.set_cons_succ, List.set_cons_zero]) | (apply wpR_pass; (case ho => (simp only [List.getElem?_toArray, List.getElem?_cons_succ, List.getElem?_cons_zero]; try exact rfl)); (case hw => rfl); (case hl => rfl); simp only [Act.put, List.setIfInBounds_toArray, List.set_cons_succ, List.set_cons_zero]))
              refine wpR_late (by ((simp only [List.getElem?_toArray, List.getElem?_cons_succ, List.getElem?_cons_zero]; try exact rfl))) _ rfl rfl (fun V v w' w2 h he => h.ext he) (fun V V' h => rfl) (fun w' hw' hK hF => ?_) (fun v hv => ?_)
              · have hF1 : SR B g cap dk w' := hF
                refine opAt_list rfl #[] (fun Q hQ => ?_)
                refine wpList_store_own rfl 32 _ _ rfl g dk.size cap (c3 fy) rfl rfl hF1.own hXs rfl (by kernel_rfl) (by simp [Value.oneCell']) (fun w2 ho hg => ?_)
                exact hQ _ _ ⟨Exc.of_only hg (fun _ _ => rfl), hF1.put hXs (HNY.out.exc (hEW.trans hw')) ho hg⟩
              clear hv
              simp only [Act.put, List.setIfInBounds_toArray, List.set_cons_succ, List.set_cons_zero]
              repeat (first | (apply wpR_one; (case ho => (simp only [List.getElem?_toArray, List.getElem?_cons_succ, List.getElem?_cons_zero]; try exact rfl)); (case hw => rfl); (case hl => rfl); (case hsp => rfl); (case he => rfl); (case hv => (intro w' hw'; (try (have hw2 := Ext.trans hEW hw')); (try (have hw3 := Exc.trans hEW hw')); (try (have hw4 := Exk.trans hEW hw')); (try (have hw5 := Mrk.trans hEW hw')); go_simp; exact rfl)); (case hw0 => (first | exact Below.refl _ _ | exact Exc.of_ext (Below.refl _ _) | exact Exk.of_ext (Below.refl _ _) | exact Mrk.of_ext (Below.refl _ _))); simp only [Act.put, List.setIfInBounds_toArray, List.set_cons_succ, List.set_cons_zero]) | (apply wpR_early; (case ho => (simp only [List.getElem?_toArray, List.getElem?_cons_succ, List.getElem?_cons_zero]; try exact rfl)); (case hw => rfl); (case hl => rfl); (case hsp => rfl); (case he => rfl); (case hv => (intro w' hw'; (try have hw2 := Ext.trans hEW hw'); go_simp; exact rfl)); simp only [Act.put, List.setIfInBounds_toArray, List.set_cons_succ, List.set_cons_zero]) | (apply wpR_pass; (case ho => (simp only [List.getElem?_toArray, List.getElem?_cons_succ, List.getElem?_cons_zero]; try exact rfl)); (case hw => rfl); (case hl => rfl); simp only [Act.put, List.setIfInBounds_toArray, List.set_cons_succ, List.set_cons_zero]))
              refine wpR_late (by ((simp only [List.getElem?_toArray, List.getElem?_cons_succ, List.getElem?_cons_zero]; try exact rfl))) _ rfl rfl (fun V v w' w2 h he => h.ext he) (fun V V' h => rfl) (fun w' hw' hK hF => ?_) (fun v hv => ?_)
              · have hF1 : SR B g cap (dk.setIfInBounds k fy) w' := hF
                have hY2 : k2 < (dk.setIfInBounds k fy).size := by simpa using hYs
                refine opAt_list rfl #[] (fun Q hQ => ?_)
                refine wpList_store_own rfl 32 _ _ rfl g (dk.setIfInBounds k fy).size cap (c3 fx) rfl rfl hF1.own hY2 rfl (by kernel_rfl) (by simp [Value.oneCell']) (fun w2 ho hg => ?_)
                exact hQ _ _ ⟨Exc.of_only hg (fun _ _ => rfl), hF1.put hY2 (HNX.out.exc (hEW.trans hw')) ho hg⟩
              clear hv
              simp only [Act.put, List.setIfInBounds_toArray, List.set_cons_succ, List.set_cons_zero]
              repeat (first | (apply wpR_one; (case ho => (simp only [List.getElem?_toArray, List.getElem?_cons_succ, List.getElem?_cons_zero]; try exact rfl)); (case hw => rfl); (case hl => rfl); (case hsp => rfl); (case he => rfl); (case hv => (intro w' hw'; (try (have hw2 := Ext.trans hEW hw')); (try (have hw3 := Exc.trans hEW hw')); (try (have hw4 := Exk.trans hEW hw')); (try (have hw5 := Mrk.trans hEW hw')); go_simp; exact rfl)); (case hw0 => (first | exact Below.refl _ _ | exact Exc.of_ext (Below.refl _ _) | exact Exk.of_ext (Below.refl _ _) | exact Mrk.of_ext (Below.refl _ _))); simp only [Act.put, List.setIfInBounds_toArray, List.set_cons_succ, List.set_cons_zero]) | (apply wpR_early; (case ho => (simp only [List.getElem?_toArray, List.getElem?_cons_succ, List.getElem?_cons_zero]; try exact rfl)); (case hw => rfl); (case hl => rfl); (case hsp => rfl); (case he => rfl); (case hv => (intro w' hw'; (try have hw2 := Ext.trans hEW hw'); go_simp; exact rfl)); simp only [Act.put, List.setIfInBounds_toArray, List.set_cons_succ, List.set_cons_zero]) | (apply wpR_pass; (case ho => (simp only [List.getElem?_toArray, List.getElem?_cons_succ, List.getElem?_cons_zero]; try exact rfl)); (case hw => rfl); (case hl => rfl); simp only [Act.put, List.setIfInBounds_toArray, List.set_cons_succ, List.set_cons_zero]))
              apply wpR_nil
              apply hN
              intro w5 hE9 hK hF
              have hx5 := hEW.trans hE9
              have hS2 : SR B g cap (swp dk k k2) w5 := by rw [HSW.out]; exact hF
              clear hK hN hF a0 a1 a2 b0 b1 b2 hEW hE9 hW hF0 HSW HFX HFY HS9 HNX HNY hXc hYc
              have HS3 := Lib.hid hS2
              have HE3 := Lib.hid (hE.trans hx5)
              have HMv2 : Hid (MvUp a k2 d (swp dk k k2)) := Lib.hid (by rw [← HK2.out]; exact HMv.out.step hak (by have := HK2.out; omega))
              have HPk2 : Hid (PermIn a b d (swp dk k k2)) := Lib.hid (permIn_trans _ _ _ _ _ HPk.out (swp_permIn dk a b k k2 hak (by omega) (by have := HK2.out; omega) hk2b (by rw [HDS.out]; exact hb)))
              have hk2k : k < k2 ∧ k2 ≤ i1 := by have := HK2.out; omega
              clear hS2 hE hx5 hXs hYs hXd hYd
              go_wp2
              go_roundw
              case rel => exact ⟨k2, swp dk k k2, by omega, hk2k.2, by go_num, HMv2, HPk2, HS3.out, HE3.out⟩
              case measure => have := hk2k; simp [intOf]; omega
            · obtain rfl : k = i1 := by omega
              have hfin : PermIn a b d dk ∧ SortedIn ltF a b dk := ⟨HPk.out, by
                have hM := HM.out
                have h1 := HF.out
                have h2 := HS2.out
                rw [hM] at h1 h2
                have h3 := HMv.out
                rw [← HI1.out] at h3
                exact merge_lo swo_ltF h1 h2 (by have := HIJ.out; omega) HIJ.out.2 h3⟩
              have HFin := Lib.hid hfin
              clear hfin
              go_wp2
              exact bodyPost_ret (show (results _ _).run _ _ = .ok (.tuple #[]) _ from by simp [results, Try.results76]) rfl ⟨rfl, dk, HFin.out, hS, hE⟩
    · have hb1 : ((ma : Int) == 1) = false := by simp; omega
      obtain ⟨bm, hbm⟩ : ∃ k : Nat, b - m = k := ⟨_, rfl⟩
      have hbmi : (b : Int) - (m : Int) = (bm : Int) := by omega
      have iwbm : IntKind.i64.wrap (bm : Int) = (bm : Int) := IntWalk.i64_in _ (by omega)
      by_cases c2 : bm = 1
      · have hb2 : ((bm : Int) == 1) = true := by simp; omega
        have hm : b = m + 1 := by omega
        have HM := Lib.hid hm
        clear c1 c2 hma hbm hm
        go_wp2
        clear hb1 hb2 hmai iwma hbmi iwbm
        go_loopw [14, 15] (fun ii jj wr => ∃ (i j : Nat), a ≤ i ∧ i ≤ j ∧ j ≤ m ∧ ii = .int .i64 i ∧ jj = .int .i64 j ∧ Hid (FindHi ltF a m i j d) ∧ SR B g cap d wr ∧ Exc (DG g) w wr) (fun ii jj _ => (intOf jj).toNat - (intOf ii).toNat)
        case atStart => exact ⟨a, m, Nat.le_refl _, by omega, Nat.le_refl _, rfl, rfl, Lib.hid (FindHi.start _ _ _ _), h, exc_refl _ _⟩
        case round =>
          clear h
          obtain ⟨i, j, hmi, hij, hjb, rfl, rfl, HF, hS, hE⟩ := hrel
          by_cases hlt : i < j
          · have hki : (i : Int) < (j : Int) := by omega
            obtain ⟨s, hs⟩ : ∃ s : Nat, i + j = s := ⟨_, rfl⟩
            obtain ⟨h, hh⟩ : ∃ h : Nat, s / 2 = h := ⟨_, rfl⟩
            have hsi : (i : Int) + (j : Int) = (s : Int) := by omega
            have hhi : (s : Int) / 2 = (h : Int) := by omega
            have iws : IntKind.i64.wrap (s : Int) = (s : Int) := IntWalk.i64_in _ (by omega)
            have hih : i ≤ h ∧ h < j := by omega
            clear hs hh
            have hXs : m < d.size := by omega
            have hYs : h < d.size := by omega
            have hXd : m < d.size := by omega
            have hYd : h < d.size := by omega
            obtain ⟨fx, hfx⟩ : ∃ f, d[m]! = f := ⟨_, rfl⟩
            obtain ⟨fy, hfy⟩ : ∃ f, d[h]! = f := ⟨_, rfl⟩
            have hnx := hS.lo m hXs
            have hny := hS.lo h hYs
            rw [hfx] at hnx
            rw [hfy] at hny
            have hcx := hS.capd
            have hXc : m < cap := by omega
            have hYc : h < cap := by omega
            have HFX := Lib.hid hfx
            have HFY := Lib.hid hfy
            have HS9 := Lib.hid hS
            have HNX := Lib.hid hnx
            have HNY := Lib.hid hny
            clear hfx hfy hS hnx hny hcx
            by_cases hlv : cmpB fx.lo fy.lo < 0
            · have hcv : ltF d[m]! d[h]! = true := by rw [HFX.out, HFY.out]; exact decide_eq_true hlv
              have hdec : decide (cmpB fx.lo fy.lo < 0) = true := decide_eq_true hlv
              have HF2 := Lib.hid (HF.out.down swo_ltF HS1.out (show a ≤ h by omega) hcv)
              clear hcv
              go_wp2
              refine wp_region_rg Ext rel_ext (fun _ => True) [0, 1, 2, 3, 4, 5, 6, 7, 8, 9, 10, 11] (fun i => match i with
                | 9 => some fun _ v w' => v = .int .i64 (cmpB fx.lo fy.lo)
                | _ => none) (fun _ => none) (fun _ => false) (by kernel_rfl) (by kernel_rfl) (fun _ _ _ _ => trivial) trivial (fun W9 N hW _ hN => ?_)
              have hEW : Ext wr W9 := hW
              have a0 : ∀ w', Ext wr w' → w'.cell? ⟨g, m * 3, none⟩ = some (.slice fx.lA fx.lo.length fx.lc) := fun w' h => by rw [← HFX.out]; exact (HS9.out.ext h).c0 hXs
              have a1 : ∀ w', Ext wr w' → w'.cell? ⟨g, m * 3 + 1, none⟩ = some (.slice fx.hA fx.hi.length fx.hc) := fun w' h => by rw [← HFX.out]; exact (HS9.out.ext h).c1 hXs
              have a2 : ∀ w', Ext wr w' → w'.cell? ⟨g, m * 3 + 2, none⟩ = some (.bool fx.op) := fun w' h => by rw [← HFX.out]; exact (HS9.out.ext h).c2 hXs
              have b0 : ∀ w', Ext wr w' → w'.cell? ⟨g, h * 3, none⟩ = some (.slice fy.lA fy.lo.length fy.lc) := fun w' h => by rw [← HFY.out]; exact (HS9.out.ext h).c0 hYs
              have b1 : ∀ w', Ext wr w' → w'.cell? ⟨g, h * 3 + 1, none⟩ = some (.slice fy.hA fy.hi.length fy.hc) := fun w' h => by rw [← HFY.out]; exact (HS9.out.ext h).c1 hYs
              have b2 : ∀ w', Ext wr w' → w'.cell? ⟨g, h * 3 + 2, none⟩ = some (.bool fy.op) := fun w' h => by rw [← HFY.out]; exact (HS9.out.ext h).c2 hYs
              repeat (first | (apply wpR_one; (case ho => (simp only [List.getElem?_toArray, List.getElem?_cons_succ, List.getElem?_cons_zero]; try exact rfl)); (case hw => rfl); (case hl => rfl); (case hsp => rfl); (case he => rfl); (case hv => (intro w' hw'; (try (have hw2 := Ext.trans hEW hw')); (try (have hw3 := Exc.trans hEW hw')); (try (have hw4 := Exk.trans hEW hw')); (try (have hw5 := Mrk.trans hEW hw')); go_simp; exact rfl)); (case hw0 => (first | exact Below.refl _ _ | exact Exc.of_ext (Below.refl _ _) | exact Exk.of_ext (Below.refl _ _) | exact Mrk.of_ext (Below.refl _ _))); simp only [Act.put, List.setIfInBounds_toArray, List.set_cons_succ, List.set_cons_zero]) | (apply wpR_early; (case ho => (simp only [List.getElem?_toArray, List.getElem?_cons_succ, List.getElem?_cons_zero]; try exact rfl)); (case hw => rfl); (case hl => rfl); (case hsp => rfl); (case he => rfl); (case hv => (intro w' hw'; (try have hw2 := Ext.trans hEW hw'); go_simp; exact rfl)); simp only [Act.put, List.setIfInBounds_toArray, List.set_cons_succ, List.set_cons_zero]) | (apply wpR_pass; (case ho => (simp only [List.getElem?_toArray, List.getElem?_cons_succ, List.getElem?_cons_zero]; try exact rfl)); (case hw => rfl); (case hl => rfl); simp only [Act.put, List.setIfInBounds_toArray, List.set_cons_succ, List.set_cons_zero]))
              refine wpR_new (by ((simp only [List.getElem?_toArray, List.getElem?_cons_succ, List.getElem?_cons_zero]; try exact rfl))) _ rfl rfl rfl (fun V v => Lasts.pure) (fun V V' h => rfl) (fun w' hw' hK => ?_) (fun v hv => ?_)
              · have hEE := hEW.trans hw'
                clear hK
                unfold opAt; go_simp; refine upAt_enter ?_
                refine (cov1_any (HNX.out.sl.ext hEE) (HNY.out.sl.ext hEE)).mono ?_
                rintro e w2 ⟨rfl, hE2⟩
                exact ⟨_, rfl, hE2, rfl⟩
              obtain ⟨_, _, _, rfl⟩ := hv
              simp only [Act.put, List.setIfInBounds_toArray, List.set_cons_succ, List.set_cons_zero]
              repeat (first | (apply wpR_one; (case ho => (simp only [List.getElem?_toArray, List.getElem?_cons_succ, List.getElem?_cons_zero]; try exact rfl)); (case hw => rfl); (case hl => rfl); (case hsp => rfl); (case he => rfl); (case hv => (intro w' hw'; (try (have hw2 := Ext.trans hEW hw')); (try (have hw3 := Exc.trans hEW hw')); (try (have hw4 := Exk.trans hEW hw')); (try (have hw5 := Mrk.trans hEW hw')); go_simp; exact rfl)); (case hw0 => (first | exact Below.refl _ _ | exact Exc.of_ext (Below.refl _ _) | exact Exk.of_ext (Below.refl _ _) | exact Mrk.of_ext (Below.refl _ _))); simp only [Act.put, List.setIfInBounds_toArray, List.set_cons_succ, List.set_cons_zero]) | (apply wpR_early; (case ho => (simp only [List.getElem?_toArray, List.getElem?_cons_succ, List.getElem?_cons_zero]; try exact rfl)); (case hw => rfl); (case hl => rfl); (case hsp => rfl); (case he => rfl); (case hv => (intro w' hw'; (try have hw2 := Ext.trans hEW hw'); go_simp; exact rfl)); simp only [Act.put, List.setIfInBounds_toArray, List.set_cons_succ, List.set_cons_zero]) | (apply wpR_pass; (case ho => (simp only [List.getElem?_toArray, List.getElem?_cons_succ, List.getElem?_cons_zero]; try exact rfl)); (case hw => rfl); (case hl => rfl); simp only [Act.put, List.setIfInBounds_toArray, List.set_cons_succ, List.set_cons_zero]))
              apply wpR_nil
              apply hN
              intro w5 hE9 hK _
              have hE5 := hEW.trans hE9
              clear hK hN a0 a1 a2 b0 b1 b2 hEW hE9 hW
              have HS8 := Lib.hid (HS9.out.ext hE5)
              have HE8 := Lib.hid (hE.trans (Exc.of_ext hE5))
              clear HFX HFY HS9 HNX HNY hE5 hE
              go_wp2
              go_roundw
              case rel => exact ⟨i, h, hmi, by omega, by omega, rfl, rfl, HF2, HS8.out, HE8.out⟩
              case measure => simp [intOf]; omega
            · have hcv : ltF d[m]! d[h]! = false := by rw [HFX.out, HFY.out]; exact decide_eq_false hlv
              have hdec : decide (cmpB fx.lo fy.lo < 0) = false := decide_eq_false hlv
              have HF2 := Lib.hid (HF.out.up swo_ltF HS1.out (show h < m by omega) hcv)
              clear hcv
              go_wp2
              refine wp_region_rg Ext rel_ext (fun _ => True) [0, 1, 2, 3, 4, 5, 6, 7, 8, 9, 10, 11] (fun i => match i with
                | 9 => some fun _ v w' => v = .int .i64 (cmpB fx.lo fy.lo)
                | _ => none) (fun _ => none) (fun _ => false) (by kernel_rfl) (by kernel_rfl) (fun _ _ _ _ => trivial) trivial (fun W9 N hW _ hN => ?_)
              have hEW : Ext wr W9 := hW
              have a0 : ∀ w', Ext wr w' → w'.cell? ⟨g, m * 3, none⟩ = some (.slice fx.lA fx.lo.length fx.lc) := fun w' h => by rw [← HFX.out]; exact (HS9.out.ext h).c0 hXs
              have a1 : ∀ w', Ext wr w' → w'.cell? ⟨g, m * 3 + 1, none⟩ = some (.slice fx.hA fx.hi.length fx.hc) := fun w' h => by rw [← HFX.out]; exact (HS9.out.ext h).c1 hXs
              have a2 : ∀ w', Ext wr w' → w'.cell? ⟨g, m * 3 + 2, none⟩ = some (.bool fx.op) := fun w' h => by rw [← HFX.out]; exact (HS9.out.ext h).c2 hXs
              have b0 : ∀ w', Ext wr w' → w'.cell? ⟨g, h * 3, none⟩ = some (.slice fy.lA fy.lo.length fy.lc) := fun w' h => by rw [← HFY.out]; exact (HS9.out.ext h).c0 hYs
              have b1 : ∀ w', Ext wr w' → w'.cell? ⟨g, h * 3 + 1, none⟩ = some (.slice fy.hA fy.hi.length fy.hc) := fun w' h => by rw [← HFY.out]; exact (HS9.out.ext h).c1 hYs
              have b2 : ∀ w', Ext wr w' → w'.cell? ⟨g, h * 3 + 2, none⟩ = some (.bool fy.op) := fun w' h => by rw [← HFY.out]; exact (HS9.out.ext h).c2 hYs
              repeat (first | (apply wpR_one; (case ho => (simp only [List.getElem?_toArray, List.getElem?_cons_succ, List.getElem?_cons_zero]; try exact rfl)); (case hw => rfl); (case hl => rfl); (case hsp => rfl); (case he => rfl); (case hv => (intro w' hw'; (try (have hw2 := Ext.trans hEW hw')); (try (have hw3 := Exc.trans hEW hw')); (try (have hw4 := Exk.trans hEW hw')); (try (have hw5 := Mrk.trans hEW hw')); go_simp; exact rfl)); (case hw0 => (first | exact Below.refl _ _ | exact Exc.of_ext (Below.refl _ _) | exact Exk.of_ext (Below.refl _ _) | exact Mrk.of_ext (Below.refl _ _))); simp only [Act.put, List.setIfInBounds_toArray, List.set_cons_succ, List.set_cons_zero]) | (apply wpR_early; (case ho => (simp only [List.getElem?_toArray, List.getElem?_cons_succ, List.getElem?_cons_zero]; try exact rfl)); (case hw => rfl); (case hl => rfl); (case hsp => rfl); (case he => rfl); (case hv => (intro w' hw'; (try have hw2 := Ext.trans hEW hw'); go_simp; exact rfl)); simp only [Act.put, List.setIfInBounds_toArray, List.set_cons_succ, List.set_cons_zero]) | (apply wpR_pass; (case ho => (simp only [List.getElem?_toArray, List.getElem?_cons_succ, List.getElem?_cons_zero]; try exact rfl)); (case hw => rfl); (case hl => rfl); simp only [Act.put, List.setIfInBounds_toArray, List.set_cons_succ, List.set_cons_zero]))
              refine wpR_new (by ((simp only [List.getElem?_toArray, List.getElem?_cons_succ, List.getElem?_cons_zero]; try exact rfl))) _ rfl rfl rfl (fun V v => Lasts.pure) (fun V V' h => rfl) (fun w' hw' hK => ?_) (fun v hv => ?_)
              · have hEE := hEW.trans hw'
                clear hK
                unfold opAt; go_simp; refine upAt_enter ?_
                refine (cov1_any (HNX.out.sl.ext hEE) (HNY.out.sl.ext hEE)).mono ?_
                rintro e w2 ⟨rfl, hE2⟩
                exact ⟨_, rfl, hE2, rfl⟩
              obtain ⟨_, _, _, rfl⟩ := hv
              simp only [Act.put, List.setIfInBounds_toArray, List.set_cons_succ, List.set_cons_zero]
              repeat (first | (apply wpR_one; (case ho => (simp only [List.getElem?_toArray, List.getElem?_cons_succ, List.getElem?_cons_zero]; try exact rfl)); (case hw => rfl); (case hl => rfl); (case hsp => rfl); (case he => rfl); (case hv => (intro w' hw'; (try (have hw2 := Ext.trans hEW hw')); (try (have hw3 := Exc.trans hEW hw')); (try (have hw4 := Exk.trans hEW hw')); (try (have hw5 := Mrk.trans hEW hw')); go_simp; exact rfl)); (case hw0 => (first | exact Below.refl _ _ | exact Exc.of_ext (Below.refl _ _) | exact Exk.of_ext (Below.refl _ _) | exact Mrk.of_ext (Below.refl _ _))); simp only [Act.put, List.setIfInBounds_toArray, List.set_cons_succ, List.set_cons_zero]) | (apply wpR_early; (case ho => (simp only [List.getElem?_toArray, List.getElem?_cons_succ, List.getElem?_cons_zero]; try exact rfl)); (case hw => rfl); (case hl => rfl); (case hsp => rfl); (case he => rfl); (case hv => (intro w' hw'; (try have hw2 := Ext.trans hEW hw'); go_simp; exact rfl)); simp only [Act.put, List.setIfInBounds_toArray, List.set_cons_succ, List.set_cons_zero]) | (apply wpR_pass; (case ho => (simp only [List.getElem?_toArray, List.getElem?_cons_succ, List.getElem?_cons_zero]; try exact rfl)); (case hw => rfl); (case hl => rfl); simp only [Act.put, List.setIfInBounds_toArray, List.set_cons_succ, List.set_cons_zero]))
              apply wpR_nil
              apply hN
              intro w5 hE9 hK _
              have hE5 := hEW.trans hE9
              clear hK hN a0 a1 a2 b0 b1 b2 hEW hE9 hW
              have HS8 := Lib.hid (HS9.out.ext hE5)
              have HE8 := Lib.hid (hE.trans (Exc.of_ext hE5))
              clear HFX HFY HS9 HNX HNY hE5 hE
              go_wp2
              go_roundw
              case rel => exact ⟨h + 1, j, by omega, by omega, hjb, by go_num, rfl, HF2, HS8.out, HE8.out⟩
              case measure => simp [intOf]; omega
          · obtain rfl : i = j := by omega
            have HIJ := Lib.hid (show a ≤ i ∧ i ≤ m by omega)
            clear hlt
            go_wp2
            go_loopw [17] (fun kk wr => ∃ (k : Nat) (dk : Array Fr), i ≤ k ∧ k ≤ m ∧ kk = .int .i64 k ∧ Hid (MvDn k m d dk) ∧ Hid (PermIn a b d dk) ∧ SR B g cap dk wr ∧ Exc (DG g) w wr) (fun kk _ => (intOf kk).toNat)
            case atStart => exact ⟨m, d, by omega, Nat.le_refl _, rfl, Lib.hid (MvDn.start m d), Lib.hid (permIn_refl d _ _), hS, hE⟩
            case round =>
              clear hS hE
              obtain ⟨k, dk, hak, hki1, rfl, HMv, HPk, hS, hE⟩ := hrel
              have hds := HMv.out.size
              by_cases hltk : i < k
              · have hkk : (i : Int) < (k : Int) := by omega
                obtain ⟨k2, hk2⟩ : ∃ k2 : Nat, k - 1 = k2 := ⟨_, rfl⟩
                have hk2i : (k : Int) - 1 = (k2 : Int) := by omega
                have iwk2 : IntKind.i64.wrap (k2 : Int) = (k2 : Int) := IntWalk.i64_in _ (by omega)
                have hXs : k < dk.size := by omega
                have hYs : k2 < dk.size := by omega
                have hXd : k < d.size := by omega
                have hYd : k2 < d.size := by omega
                have HK2 := Lib.hid hk2
                have HDS := Lib.hid hds
                clear hk2 hds
                go_wp2
                obtain ⟨fx, hfx⟩ : ∃ f, dk[k]! = f := ⟨_, rfl⟩
                obtain ⟨fy, hfy⟩ : ∃ f, dk[k2]! = f := ⟨_, rfl⟩
                have hnx := hS.lo k hXs
                have hny := hS.lo k2 hYs
                rw [hfx] at hnx
                rw [hfy] at hny
                have HSW := Lib.hid (show swp dk k k2 = (dk.setIfInBounds k fy).setIfInBounds k2 fx by rw [← hfx, ← hfy]; rfl)
                have hcx := hS.capd
                have hXc : k < cap := by omega
                have hYc : k2 < cap := by omega
                refine wp_region_rg (Exc (DG g)) (rel_exc _) (fun w' => SR B g cap dk w') [0, 1, 2, 3, 4, 5, 6, 7, 8, 9, 10, 11, 12, 13, 14, 15, 16, 17] (fun _ => none) (fun i => match i with
                  | 15 => some fun V _ w' => SR B g cap (dk.setIfInBounds k fy) w'
                  | 17 => some fun V _ w' => SR B g cap ((dk.setIfInBounds k fy).setIfInBounds k2 fx) w'
                  | _ => none) (fun i => match i with | 9 => true | 13 => true | _ => false) (by kernel_rfl) (by kernel_rfl) (fun _ _ h he => h.ext he) (hS.ext (ext_drew _)) (fun W9 N hW hF0 hN => ?_)
                have hEW : Exc (DG g) wr W9 := Exc.of_ext hW
                have hF0' : SR B g cap dk W9 := hF0
                have a0 : ∀ w', Ext W9 w' → w'.cell? ⟨g, k * 3, none⟩ = some (.slice fx.lA fx.lo.length fx.lc) := fun w' h => by rw [← hfx]; exact (hF0'.ext h).c0 hXs
                have a1 : ∀ w', Ext W9 w' → w'.cell? ⟨g, k * 3 + 1, none⟩ = some (.slice fx.hA fx.hi.length fx.hc) := fun w' h => by rw [← hfx]; exact (hF0'.ext h).c1 hXs
                have a2 : ∀ w', Ext W9 w' → w'.cell? ⟨g, k * 3 + 2, none⟩ = some (.bool fx.op) := fun w' h => by rw [← hfx]; exact (hF0'.ext h).c2 hXs
                have b0 : ∀ w', Ext W9 w' → w'.cell? ⟨g, k2 * 3, none⟩ = some (.slice fy.lA fy.lo.length fy.lc) := fun w' h => by rw [← hfy]; exact (hF0'.ext h).c0 hYs
                have b1 : ∀ w', Ext W9 w' → w'.cell? ⟨g, k2 * 3 + 1, none⟩ = some (.slice fy.hA fy.hi.length fy.hc) := fun w' h => by rw [← hfy]; exact (hF0'.ext h).c1 hYs
                have b2 : ∀ w', Ext W9 w' → w'.cell? ⟨g, k2 * 3 + 2, none⟩ = some (.bool fy.op) := fun w' h => by rw [← hfy]; exact (hF0'.ext h).c2 hYs
                have HFX := Lib.hid hfx
                have HFY := Lib.hid hfy
                have HS9 := Lib.hid hS
                have HNX := Lib.hid hnx
                have HNY := Lib.hid hny
                clear hfx hfy hS hnx hny hF0' hcx
                repeat (first | (apply wpR_one; (case ho => (simp only [List.getElem?_toArray, List.getElem?_cons_succ, List.getElem?_cons_zero]; try exact rfl)); (case hw => rfl); (case hl => rfl); (case hsp => rfl); (case he => rfl); (case hv => (intro w' hw'; (try (have hw2 := Ext.trans hEW hw')); (try (have hw3 := Exc.trans hEW hw')); (try (have hw4 := Exk.trans hEW hw')); (try (have hw5 := Mrk.trans hEW hw')); go_simp; exact rfl)); (case hw0 => (first | exact Below.refl _ _ | exact Exc.of_ext (Below.refl _ _) | exact Exk.of_ext (Below.refl _ _) | exact Mrk.of_ext (Below.refl _ _))); simp only [Act.put, List.setIfInBounds_toArray, List.set_cons_succ, List.set_cons_zero]) | (apply wpR_early; (case ho => (simp only [List.getElem?_toArray, List.getElem?_cons_succ, List.getElem?_cons_zero]; try exact rfl)); (case hw => rfl); (case hl => rfl); (case hsp => rfl); (case he => rfl); (case hv => (intro w' hw'; (try have hw2 := Ext.trans hEW hw'); go_simp; exact rfl)); simp only [Act.put, List.setIfInBounds_toArray, List.set_cons_succ, List.set_cons_zero]) | (apply wpR_pass; (case ho => (simp only [List.getElem?_toArray, List.getElem?_cons_succ, List.getElem?_cons_zero]; try exact rfl)); (case hw => rfl); (case hl => rfl); simp only [Act.put, List.setIfInBounds_toArray, List.set_cons_succ, List.set_cons_zero]))
                refine wpR_late (by ((simp only [List.getElem?_toArray, List.getElem?_cons_succ, List.getElem?_cons_zero]; try exact rfl))) _ rfl rfl (fun V v w' w2 h he => h.ext he) (fun V V' h => rfl) (fun w' hw' hK hF => ?_) (fun v hv => ?_)
                · have hF1 : SR B g cap dk w' := hF
                  refine opAt_list rfl #[] (fun Q hQ => ?_)
                  refine wpList_store_own rfl 32 _ _ rfl g dk.size cap (c3 fy) rfl rfl hF1.own hXs rfl (by kernel_rfl) (by simp [Value.oneCell']) (fun w2 ho hg => ?_)
                  exact hQ _ _ ⟨Exc.of_only hg (fun _ _ => rfl), hF1.put hXs (HNY.out.exc (hEW.trans hw')) ho hg⟩
                clear hv
                simp only [Act.put, List.setIfInBounds_toArray, List.set_cons_succ, List.set_cons_zero]
                repeat (first | (apply wpR_one; (case ho => (simp only [List.getElem?_toArray, List.getElem?_cons_succ, List.getElem?_cons_zero]; try exact rfl)); (case hw => rfl); (case hl => rfl); (case hsp => rfl); (case he => rfl); (case hv => (intro w' hw'; (try (have hw2 := Ext.trans hEW hw')); (try (have hw3 := Exc.trans hEW hw')); (try (have hw4 := Exk.trans hEW hw')); (try (have hw5 := Mrk.trans hEW hw')); go_simp; exact rfl)); (case hw0 => (first | exact Below.refl _ _ | exact Exc.of_ext (Below.refl _ _) | exact Exk.of_ext (Below.refl _ _) | exact Mrk.of_ext (Below.refl _ _))); simp only [Act.put, List.setIfInBounds_toArray, List.set_cons_succ, List.set_cons_zero]) | (apply wpR_early; (case ho => (simp only [List.getElem?_toArray, List.getElem?_cons_succ, List.getElem?_cons_zero]; try exact rfl)); (case hw => rfl); (case hl => rfl); (case hsp => rfl); (case he => rfl); (case hv => (intro w' hw'; (try have hw2 := Ext.trans hEW hw'); go_simp; exact rfl)); simp only [Act.put, List.setIfInBounds_toArray, List.set_cons_succ, List.set_cons_zero]) | (apply wpR_pass; (case ho => (simp only [List.getElem?_toArray, List.getElem?_cons_succ, List.getElem?_cons_zero]; try exact rfl)); (case hw => rfl); (case hl => rfl); simp only [Act.put, List.setIfInBounds_toArray, List.set_cons_succ, List.set_cons_zero]))
                refine wpR_late (by ((simp only [List.getElem?_toArray, List.getElem?_cons_succ, List.getElem?_cons_zero]; try exact rfl))) _ rfl rfl (fun V v w' w2 h he => h.ext he) (fun V V' h => rfl) (fun w' hw' hK hF => ?_) (fun v hv => ?_)
                · have hF1 : SR B g cap (dk.setIfInBounds k fy) w' := hF
                  have hY2 : k2 < (dk.setIfInBounds k fy).size := by simpa using hYs
                  refine opAt_list rfl #[] (fun Q hQ => ?_)
                  refine wpList_store_own rfl 32 _ _ rfl g (dk.setIfInBounds k fy).size cap (c3 fx) rfl rfl hF1.own hY2 rfl (by kernel_rfl) (by simp [Value.oneCell']) (fun w2 ho hg => ?_)
                  exact hQ _ _ ⟨Exc.of_only hg (fun _ _ => rfl), hF1.put hY2 (HNX.out.exc (hEW.trans hw')) ho hg⟩
                clear hv
                simp only [Act.put, List.setIfInBounds_toArray, List.set_cons_succ, List.set_cons_zero]
                repeat (first | (apply wpR_one; (case ho => (simp only [List.getElem?_toArray, List.getElem?_cons_succ, List.getElem?_cons_zero]; try exact rfl)); (case hw => rfl); (case hl => rfl); (case hsp => rfl); (case he => rfl); (case hv => (intro w' hw'; (try (have hw2 := Ext.trans hEW hw')); (try (have hw3 := Exc.trans hEW hw')); (try (have hw4 := Exk.trans hEW hw')); (try (have hw5 := Mrk.trans hEW hw')); go_simp; exact rfl)); (case hw0 => (first | exact Below.refl _ _ | exact Exc.of_ext (Below.refl _ _) | exact Exk.of_ext (Below.refl _ _) | exact Mrk.of_ext (Below.refl _ _))); simp only [Act.put, List.setIfInBounds_toArray, List.set_cons_succ, List.set_cons_zero]) | (apply wpR_early; (case ho => (simp only [List.getElem?_toArray, List.getElem?_cons_succ, List.getElem?_cons_zero]; try exact rfl)); (case hw => rfl); (case hl => rfl); (case hsp => rfl); (case he => rfl); (case hv => (intro w' hw'; (try have hw2 := Ext.trans hEW hw'); go_simp; exact rfl)); simp only [Act.put, List.setIfInBounds_toArray, List.set_cons_succ, List.set_cons_zero]) | (apply wpR_pass; (case ho => (simp only [List.getElem?_toArray, List.getElem?_cons_succ, List.getElem?_cons_zero]; try exact rfl)); (case hw => rfl); (case hl => rfl); simp only [Act.put, List.setIfInBounds_toArray, List.set_cons_succ, List.set_cons_zero]))
                apply wpR_nil
                apply hN
                intro w5 hE9 hK hF
                have hx5 := hEW.trans hE9
                have hS2 : SR B g cap (swp dk k k2) w5 := by rw [HSW.out]; exact hF
                clear hK hN hF a0 a1 a2 b0 b1 b2 hEW hE9 hW hF0 HSW HFX HFY HS9 HNX HNY hXc hYc
                have HS3 := Lib.hid hS2
                have HE3 := Lib.hid (hE.trans hx5)
                have hkk2 : k = k2 + 1 := by have := HK2.out; omega
                have HMv2 : Hid (MvDn k2 m d (swp dk k k2)) := Lib.hid (by
                  have h1 := HMv.out
                  rw [hkk2] at h1 ⊢
                  exact h1.step (by omega) (by omega))
                have HPk2 : Hid (PermIn a b d (swp dk k k2)) := Lib.hid (permIn_trans _ _ _ _ _ HPk.out (swp_permIn dk a b k k2 (by omega) (by omega) (by omega) (by omega) (by rw [HDS.out]; exact hb)))
                have hk2k : i ≤ k2 ∧ k2 < k := by omega
                clear hS2 hE hx5 hXs hYs hXd hYd hkk2
                go_wp2
                go_roundw
                case rel => exact ⟨k2, swp dk k k2, hk2k.1, by omega, by go_num, HMv2, HPk2, HS3.out, HE3.out⟩
                case measure => have := hk2k; simp [intOf]; omega
              · obtain rfl : k = i := by omega
                have hfin : PermIn a b d dk ∧ SortedIn ltF a b dk := ⟨HPk.out, by
                  rw [HM.out]
                  exact merge_hi swo_ltF HF.out HS1.out HIJ.out.1 HIJ.out.2 HMv.out⟩
                have HFin := Lib.hid hfin
                clear hfin
                go_wp2
                exact bodyPost_ret (show (results _ _).run _ _ = .ok (.tuple #[]) _ from by simp [results, Try.results76]) rfl ⟨rfl, dk, HFin.out, hS, hE⟩
      · have hb2 : ((bm : Int) == 1) = false := by simp; omega
        obtain ⟨ab, hab⟩ : ∃ k : Nat, a + b = k := ⟨_, rfl⟩
        obtain ⟨mid, hmid⟩ : ∃ k : Nat, ab / 2 = k := ⟨_, rfl⟩
        obtain ⟨n, hn⟩ : ∃ k : Nat, mid + m = k := ⟨_, rfl⟩
        obtain ⟨p, hp⟩ : ∃ k : Nat, n - 1 = k := ⟨_, rfl⟩
        have habi : (a : Int) + (b : Int) = (ab : Int) := by omega
        have hmidi : (ab : Int) / 2 = (mid : Int) := by omega
        have hni : (mid : Int) + (m : Int) = (n : Int) := by omega
        have hpi : (n : Int) - 1 = (p : Int) := by omega
        have iwab : IntKind.i64.wrap (ab : Int) = (ab : Int) := IntWalk.i64_in _ (by omega)
        have iwn : IntKind.i64.wrap (n : Int) = (n : Int) := IntWalk.i64_in _ (by omega)
        have iwp : IntKind.i64.wrap (p : Int) = (p : Int) := IntWalk.i64_in _ (by omega)
        have ham2 : a + 2 ≤ m := by omega
        have hmb2 : m + 2 ≤ b := by omega
        have hmida : a < mid ∧ mid < b ∧ 2 * mid ≤ a + b ∧ a + b ≤ 2 * mid + 1 := by omega
        clear c1 c2 hma hbm hab hmid
        by_cases c3 : mid < m
        · have hc3 : (mid : Int) < (m : Int) := by omega
          obtain ⟨lo, hlo⟩ : ∃ k : Nat, n - b = k := ⟨_, rfl⟩
          have hloi : (n : Int) - (b : Int) = (lo : Int) := by omega
          have iwlo : IntKind.i64.wrap (lo : Int) = (lo : Int) := IntWalk.i64_in _ (by omega)
          go_wp2
          go_loopw [20, 21] (fun ii jj wr => ∃ (i j : Nat), lo ≤ i ∧ i ≤ j ∧ j ≤ mid ∧ ii = .int .i64 i ∧ jj = .int .i64 j ∧ Hid (FindCut ltF p lo mid i j d) ∧ SR B g cap d wr ∧ Exc (DG g) w wr) (fun ii jj _ => (intOf jj).toNat - (intOf ii).toNat)
          case atStart => exact ⟨lo, mid, Nat.le_refl _, by omega, Nat.le_refl _, rfl, rfl, Lib.hid (FindCut.start _ _ _ _ _), h, exc_refl _ _⟩
          case round =>
            clear h
            obtain ⟨i, j, hmi, hij, hjb, rfl, rfl, HF, hS, hE⟩ := hrel
            by_cases hlt : i < j
            · have hki : (i : Int) < (j : Int) := by omega
              obtain ⟨s, hs⟩ : ∃ s : Nat, i + j = s := ⟨_, rfl⟩
              obtain ⟨h, hh⟩ : ∃ h : Nat, s / 2 = h := ⟨_, rfl⟩
              have hsi : (i : Int) + (j : Int) = (s : Int) := by omega
              have hhi : (s : Int) / 2 = (h : Int) := by omega
              have iws : IntKind.i64.wrap (s : Int) = (s : Int) := IntWalk.i64_in _ (by omega)
              have hih : i ≤ h ∧ h < j := by omega
              clear hs hh
              obtain ⟨pc, hpc⟩ : ∃ k : Nat, p - h = k := ⟨_, rfl⟩
              have hpci : (p : Int) - (h : Int) = (pc : Int) := by omega
              have iwpc : IntKind.i64.wrap (pc : Int) = (pc : Int) := IntWalk.i64_in _ (by omega)
              have hXs : pc < d.size := by omega
              have hYs : h < d.size := by omega
              have hXd : pc < d.size := by omega
              have hYd : h < d.size := by omega
              have HPC := Lib.hid hpc
              clear hpc
              obtain ⟨fx, hfx⟩ : ∃ f, d[pc]! = f := ⟨_, rfl⟩
              obtain ⟨fy, hfy⟩ : ∃ f, d[h]! = f := ⟨_, rfl⟩
              have hnx := hS.lo pc hXs
              have hny := hS.lo h hYs
              rw [hfx] at hnx
              rw [hfy] at hny
              have hcx := hS.capd
              have hXc : pc < cap := by omega
              have hYc : h < cap := by omega
              have HFX := Lib.hid hfx
              have HFY := Lib.hid hfy
              have HS9 := Lib.hid hS
              have HNX := Lib.hid hnx
              have HNY := Lib.hid hny
              clear hfx hfy hS hnx hny hcx
              by_cases hlv : cmpB fx.lo fy.lo < 0
              · have hcv : ltF d[pc]! d[h]! = true := by rw [HFX.out, HFY.out]; exact decide_eq_true hlv
                have hdec : decide (cmpB fx.lo fy.lo < 0) = true := decide_eq_true hlv
                have HF2 := Lib.hid (HF.out.down swo_ltF HS1.out HS2.out (show a ≤ lo by omega) (show lo ≤ h by omega) (show mid ≤ m by omega) (by omega) (by omega) (by rw [HPC.out]; exact hcv))
                clear hcv
                go_wp2
                refine wp_region_rg Ext rel_ext (fun _ => True) [0, 1, 2, 3, 4, 5, 6, 7, 8, 9, 10, 11, 12, 13] (fun i => match i with
                  | 11 => some fun _ v w' => v = .int .i64 (cmpB fx.lo fy.lo)
                  | _ => none) (fun _ => none) (fun _ => false) (by kernel_rfl) (by kernel_rfl) (fun _ _ _ _ => trivial) trivial (fun W9 N hW _ hN => ?_)
                have hEW : Ext wr W9 := hW
                have a0 : ∀ w', Ext wr w' → w'.cell? ⟨g, pc * 3, none⟩ = some (.slice fx.lA fx.lo.length fx.lc) := fun w' h => by rw [← HFX.out]; exact (HS9.out.ext h).c0 hXs
                have a1 : ∀ w', Ext wr w' → w'.cell? ⟨g, pc * 3 + 1, none⟩ = some (.slice fx.hA fx.hi.length fx.hc) := fun w' h => by rw [← HFX.out]; exact (HS9.out.ext h).c1 hXs
                have a2 : ∀ w', Ext wr w' → w'.cell? ⟨g, pc * 3 + 2, none⟩ = some (.bool fx.op) := fun w' h => by rw [← HFX.out]; exact (HS9.out.ext h).c2 hXs
                have b0 : ∀ w', Ext wr w' → w'.cell? ⟨g, h * 3, none⟩ = some (.slice fy.lA fy.lo.length fy.lc) := fun w' h => by rw [← HFY.out]; exact (HS9.out.ext h).c0 hYs
                have b1 : ∀ w', Ext wr w' → w'.cell? ⟨g, h * 3 + 1, none⟩ = some (.slice fy.hA fy.hi.length fy.hc) := fun w' h => by rw [← HFY.out]; exact (HS9.out.ext h).c1 hYs
                have b2 : ∀ w', Ext wr w' → w'.cell? ⟨g, h * 3 + 2, none⟩ = some (.bool fy.op) := fun w' h => by rw [← HFY.out]; exact (HS9.out.ext h).c2 hYs
                repeat (first | (apply wpR_one; (case ho => (simp only [List.getElem?_toArray, List.getElem?_cons_succ, List.getElem?_cons_zero]; try exact rfl)); (case hw => rfl); (case hl => rfl); (case hsp => rfl); (case he => rfl); (case hv => (intro w' hw'; (try (have hw2 := Ext.trans hEW hw')); (try (have hw3 := Exc.trans hEW hw')); (try (have hw4 := Exk.trans hEW hw')); (try (have hw5 := Mrk.trans hEW hw')); go_simp; exact rfl)); (case hw0 => (first | exact Below.refl _ _ | exact Exc.of_ext (Below.refl _ _) | exact Exk.of_ext (Below.refl _ _) | exact Mrk.of_ext (Below.refl _ _))); simp only [Act.put, List.setIfInBounds_toArray, List.set_cons_succ, List.set_cons_zero]) | (apply wpR_early; (case ho => (simp only [List.getElem?_toArray, List.getElem?_cons_succ, List.getElem?_cons_zero]; try exact rfl)); (case hw => rfl); (case hl => rfl); (case hsp => rfl); (case he => rfl); (case hv => (intro w' hw'; (try have hw2 := Ext.trans hEW hw'); go_simp; exact rfl)); simp only [Act.put, List.setIfInBounds_toArray, List.set_cons_succ, List.set_cons_zero]) | (apply wpR_pass; (case ho => (simp only [List.getElem?_toArray, List.getElem?_cons_succ, List.getElem?_cons_zero]; try exact rfl)); (case hw => rfl); (case hl => rfl); simp only [Act.put, List.setIfInBounds_toArray, List.set_cons_succ, List.set_cons_zero]))
                refine wpR_new (by ((simp only [List.getElem?_toArray, List.getElem?_cons_succ, List.getElem?_cons_zero]; try exact rfl))) _ rfl rfl rfl (fun V v => Lasts.pure) (fun V V' h => rfl) (fun w' hw' hK => ?_) (fun v hv => ?_)
                · have hEE := hEW.trans hw'
                  clear hK
                  unfold opAt; go_simp; refine upAt_enter ?_
                  refine (cov1_any (HNX.out.sl.ext hEE) (HNY.out.sl.ext hEE)).mono ?_
                  rintro e w2 ⟨rfl, hE2⟩
                  exact ⟨_, rfl, hE2, rfl⟩
                obtain ⟨_, _, _, rfl⟩ := hv
                simp only [Act.put, List.setIfInBounds_toArray, List.set_cons_succ, List.set_cons_zero]
                repeat (first | (apply wpR_one; (case ho => (simp only [List.getElem?_toArray, List.getElem?_cons_succ, List.getElem?_cons_zero]; try exact rfl)); (case hw => rfl); (case hl => rfl); (case hsp => rfl); (case he => rfl); (case hv => (intro w' hw'; (try (have hw2 := Ext.trans hEW hw')); (try (have hw3 := Exc.trans hEW hw')); (try (have hw4 := Exk.trans hEW hw')); (try (have hw5 := Mrk.trans hEW hw')); go_simp; exact rfl)); (case hw0 => (first | exact Below.refl _ _ | exact Exc.of_ext (Below.refl _ _) | exact Exk.of_ext (Below.refl _ _) | exact Mrk.of_ext (Below.refl _ _))); simp only [Act.put, List.setIfInBounds_toArray, List.set_cons_succ, List.set_cons_zero]) | (apply wpR_early; (case ho => (simp only [List.getElem?_toArray, List.getElem?_cons_succ, List.getElem?_cons_zero]; try exact rfl)); (case hw => rfl); (case hl => rfl); (case hsp => rfl); (case he => rfl); (case hv => (intro w' hw'; (try have hw2 := Ext.trans hEW hw'); go_simp; exact rfl)); simp only [Act.put, List.setIfInBounds_toArray, List.set_cons_succ, List.set_cons_zero]) | (apply wpR_pass; (case ho => (simp only [List.getElem?_toArray, List.getElem?_cons_succ, List.getElem?_cons_zero]; try exact rfl)); (case hw => rfl); (case hl => rfl); simp only [Act.put, List.setIfInBounds_toArray, List.set_cons_succ, List.set_cons_zero]))
                apply wpR_nil
                apply hN
                intro w5 hE9 hK _
                have hE5 := hEW.trans hE9
                clear hK hN a0 a1 a2 b0 b1 b2 hEW hE9 hW
                have HS8 := Lib.hid (HS9.out.ext hE5)
                have HE8 := Lib.hid (hE.trans (Exc.of_ext hE5))
                clear HFX HFY HS9 HNX HNY hE5 hE
                go_wp2
                go_roundw
                case rel => exact ⟨i, h, hmi, by omega, by omega, rfl, rfl, HF2, HS8.out, HE8.out⟩
                case measure => simp [intOf]; omega
              · have hcv : ltF d[pc]! d[h]! = false := by rw [HFX.out, HFY.out]; exact decide_eq_false hlv
                have hdec : decide (cmpB fx.lo fy.lo < 0) = false := decide_eq_false hlv
                have HF2 := Lib.hid (HF.out.up swo_ltF HS1.out HS2.out (show a ≤ lo by omega) (show h < mid by omega) (show mid ≤ m by omega) (by omega) (by omega) (by rw [HPC.out]; exact hcv))
                clear hcv
                go_wp2
                refine wp_region_rg Ext rel_ext (fun _ => True) [0, 1, 2, 3, 4, 5, 6, 7, 8, 9, 10, 11, 12, 13] (fun i => match i with
                  | 11 => some fun _ v w' => v = .int .i64 (cmpB fx.lo fy.lo)
                  | _ => none) (fun _ => none) (fun _ => false) (by kernel_rfl) (by kernel_rfl) (fun _ _ _ _ => trivial) trivial (fun W9 N hW _ hN => ?_)
                have hEW : Ext wr W9 := hW
                have a0 : ∀ w', Ext wr w' → w'.cell? ⟨g, pc * 3, none⟩ = some (.slice fx.lA fx.lo.length fx.lc) := fun w' h => by rw [← HFX.out]; exact (HS9.out.ext h).c0 hXs
                have a1 : ∀ w', Ext wr w' → w'.cell? ⟨g, pc * 3 + 1, none⟩ = some (.slice fx.hA fx.hi.length fx.hc) := fun w' h => by rw [← HFX.out]; exact (HS9.out.ext h).c1 hXs
                have a2 : ∀ w', Ext wr w' → w'.cell? ⟨g, pc * 3 + 2, none⟩ = some (.bool fx.op) := fun w' h => by rw [← HFX.out]; exact (HS9.out.ext h).c2 hXs
                have b0 : ∀ w', Ext wr w' → w'.cell? ⟨g, h * 3, none⟩ = some (.slice fy.lA fy.lo.length fy.lc) := fun w' h => by rw [← HFY.out]; exact (HS9.out.ext h).c0 hYs
                have b1 : ∀ w', Ext wr w' → w'.cell? ⟨g, h * 3 + 1, none⟩ = some (.slice fy.hA fy.hi.length fy.hc) := fun w' h => by rw [← HFY.out]; exact (HS9.out.ext h).c1 hYs
                have b2 : ∀ w', Ext wr w' → w'.cell? ⟨g, h * 3 + 2, none⟩ = some (.bool fy.op) := fun w' h => by rw [← HFY.out]; exact (HS9.out.ext h).c2 hYs
                repeat (first | (apply wpR_one; (case ho => (simp only [List.getElem?_toArray, List.getElem?_cons_succ, List.getElem?_cons_zero]; try exact rfl)); (case hw => rfl); (case hl => rfl); (case hsp => rfl); (case he => rfl); (case hv => (intro w' hw'; (try (have hw2 := Ext.trans hEW hw')); (try (have hw3 := Exc.trans hEW hw')); (try (have hw4 := Exk.trans hEW hw')); (try (have hw5 := Mrk.trans hEW hw')); go_simp; exact rfl)); (case hw0 => (first | exact Below.refl _ _ | exact Exc.of_ext (Below.refl _ _) | exact Exk.of_ext (Below.refl _ _) | exact Mrk.of_ext (Below.refl _ _))); simp only [Act.put, List.setIfInBounds_toArray, List.set_cons_succ, List.set_cons_zero]) | (apply wpR_early; (case ho => (simp only [List.getElem?_toArray, List.getElem?_cons_succ, List.getElem?_cons_zero]; try exact rfl)); (case hw => rfl); (case hl => rfl); (case hsp => rfl); (case he => rfl); (case hv => (intro w' hw'; (try have hw2 := Ext.trans hEW hw'); go_simp; exact rfl)); simp only [Act.put, List.setIfInBounds_toArray, List.set_cons_succ, List.set_cons_zero]) | (apply wpR_pass; (case ho => (simp only [List.getElem?_toArray, List.getElem?_cons_succ, List.getElem?_cons_zero]; try exact rfl)); (case hw => rfl); (case hl => rfl); simp only [Act.put, List.setIfInBounds_toArray, List.set_cons_succ, List.set_cons_zero]))
                refine wpR_new (by ((simp only [List.getElem?_toArray, List.getElem?_cons_succ, List.getElem?_cons_zero]; try exact rfl))) _ rfl rfl rfl (fun V v => Lasts.pure) (fun V V' h => rfl) (fun w' hw' hK => ?_) (fun v hv => ?_)
                · have hEE := hEW.trans hw'
                  clear hK
                  unfold opAt; go_simp; refine upAt_enter ?_
                  refine (cov1_any (HNX.out.sl.ext hEE) (HNY.out.sl.ext hEE)).mono ?_
                  rintro e w2 ⟨rfl, hE2⟩
                  exact ⟨_, rfl, hE2, rfl⟩
                obtain ⟨_, _, _, rfl⟩ := hv
                simp only [Act.put, List.setIfInBounds_toArray, List.set_cons_succ, List.set_cons_zero]
                repeat (first | (apply wpR_one; (case ho => (simp only [List.getElem?_toArray, List.getElem?_cons_succ, List.getElem?_cons_zero]; try exact rfl)); (case hw => rfl); (case hl => rfl); (case hsp => rfl); (case he => rfl); (case hv => (intro w' hw'; (try (have hw2 := Ext.trans hEW hw')); (try (have hw3 := Exc.trans hEW hw')); (try (have hw4 := Exk.trans hEW hw')); (try (have hw5 := Mrk.trans hEW hw')); go_simp; exact rfl)); (case hw0 => (first | exact Below.refl _ _ | exact Exc.of_ext (Below.refl _ _) | exact Exk.of_ext (Below.refl _ _) | exact Mrk.of_ext (Below.refl _ _))); simp only [Act.put, List.setIfInBounds_toArray, List.set_cons_succ, List.set_cons_zero]) | (apply wpR_early; (case ho => (simp only [List.getElem?_toArray, List.getElem?_cons_succ, List.getElem?_cons_zero]; try exact rfl)); (case hw => rfl); (case hl => rfl); (case hsp => rfl); (case he => rfl); (case hv => (intro w' hw'; (try have hw2 := Ext.trans hEW hw'); go_simp; exact rfl)); simp only [Act.put, List.setIfInBounds_toArray, List.set_cons_succ, List.set_cons_zero]) | (apply wpR_pass; (case ho => (simp only [List.getElem?_toArray, List.getElem?_cons_succ, List.getElem?_cons_zero]; try exact rfl)); (case hw => rfl); (case hl => rfl); simp only [Act.put, List.setIfInBounds_toArray, List.set_cons_succ, List.set_cons_zero]))
                apply wpR_nil
                apply hN
                intro w5 hE9 hK _
                have hE5 := hEW.trans hE9
                clear hK hN a0 a1 a2 b0 b1 b2 hEW hE9 hW
                have HS8 := Lib.hid (HS9.out.ext hE5)
                have HE8 := Lib.hid (hE.trans (Exc.of_ext hE5))
                clear HFX HFY HS9 HNX HNY hE5 hE
                go_wp2
                go_roundw
                case rel => exact ⟨h + 1, j, by omega, by omega, hjb, by go_num, rfl, HF2, HS8.out, HE8.out⟩
                case measure => simp [intOf]; omega
            · have hij2 : i = j := by omega
              subst hij2
              obtain ⟨sx, hsx⟩ : ∃ k : Nat, i = k := ⟨_, rfl⟩
              rw [hsx] at hmi hjb HF ⊢
              obtain ⟨en, hen⟩ : ∃ k : Nat, n - sx = k := ⟨_, rfl⟩
              have heni : (n : Int) - (sx : Int) = (en : Int) := by omega
              have iwen : IntKind.i64.wrap (en : Int) = (en : Int) := IntWalk.i64_in _ (by omega)
              clear hsx hij hlt
              by_cases h1a : sx < m
              · have h1ai : (sx : Int) < (m : Int) := by omega
                by_cases h1b : m < en
                · have h1bi : (m : Int) < (en : Int) := by omega
                  have hc1 := rotate_any hS h1a h1b (show en ≤ d.size by omega) hsz
                  go_wp2_with fail
                  refine hc1.mono ?_
                  rintro e w1 ⟨rfl, d1, g1, g2, hS1', g4⟩
                  have HSZ1 := Lib.hid (show d1.size = d.size from g2.1)
                  have hc4 := cut4 swo_ltF (a := a) (b := b) (mid := mid) (s := sx) (en := en) (lo := lo) (r0 := mid) HS1.out HS2.out (g1) (by have h9 := HF.out; rw [show mid + m - 1 = p by omega]; exact h9) (by omega) (by omega) (by omega) (by omega) (by omega) (by omega) (by omega) (fun h9 => by omega) (by omega) (fun h9 => by omega) (by omega)
                  have HC4 := Lib.hid hc4
                  have HP0 := Lib.hid (permIn_mono _ _ _ _ a b (show a ≤ sx by omega) (show en ≤ b by omega) hb g2)
                  have hE1 := hE.trans g4
                  clear g1 g2 g4 hc1 hc4 hS hE
                  by_cases h2a : a < sx
                  · have h2ai : (a : Int) < (sx : Int) := by omega
                    by_cases h2b : sx < mid
                    · have h2bi : (sx : Int) < (mid : Int) := by omega
                      have hc2 := IH.out a sx mid d1 w1 (by omega) h2a h2b (by have := HSZ1.out; omega) (by rw [HSZ1.out]; exact hsz) hS1' HC4.out.s1 HC4.out.s2
                      rw [HSZ1.out] at hc2
                      go_wp2_with fail
                      refine hc2.mono ?_
                      rintro e w2 ⟨rfl, d2, ⟨g1, g2⟩, hS2', g4⟩
                      have HSZ2 := Lib.hid (show d2.size = d.size by rw [g1.1, HSZ1.out])
                      have HP1 := Lib.hid g1
                      have HSL := Lib.hid g2
                      have hE2 := hE1.trans g4
                      clear g1 g2 g4 hc2 hS1' hE1
                      by_cases h3a : mid < en
                      · have h3ai : (mid : Int) < (en : Int) := by omega
                        by_cases h3b : en < b
                        · have h3bi : (en : Int) < (b : Int) := by omega
                          have hc3 := IH.out mid en b d2 w2 (by omega) h3a h3b (by rw [HSZ2.out]; exact hb) (by rw [HSZ2.out]; exact hsz) hS2' (sorted_keep HC4.out.s3 (fun i hi hi2 => HP1.out.2.1 i (.inr hi))) (sorted_keep HC4.out.s4 (fun i hi hi2 => HP1.out.2.1 i (.inr (by omega))))
                          rw [HSZ2.out] at hc3
                          go_wp2_with fail
                          refine hc3.mono ?_
                          rintro e w3 ⟨rfl, d3, ⟨g1, g2⟩, g3, g4⟩
                          have hfin := sym_fin hb HP0.out HC4.out (by omega) (by omega) HP1.out HSL.out g1 g2
                          have HFin := Lib.hid hfin
                          have HE3 := Lib.hid (hE2.trans g4)
                          clear hfin g1 g2 g4 hc3
                          go_wp2
                          exact bodyPost_end (by simp [results, Try.results76]) rfl ⟨rfl, d3, HFin.out, g3, HE3.out⟩
                        · have h3bi : ¬ (en : Int) < (b : Int) := by omega
                          have h3b' : b ≤ en := by omega
                          have hsr := sorted_keep (d1 := d2) (sym_right0 HC4.out (.inr h3b') (by omega) (by omega)) (fun i hi hi2 => HP1.out.2.1 i (.inr hi))
                          have hfin := sym_fin hb HP0.out HC4.out (by omega) (by omega) HP1.out HSL.out (permIn_refl d2 _ _) hsr
                          have HFin := Lib.hid hfin
                          clear hfin hsr
                          go_wp2
                          exact bodyPost_end (by simp [results, Try.results76]) rfl ⟨rfl, d2, HFin.out, hS2', hE2⟩
                      · have h3ai : ¬ (mid : Int) < (en : Int) := by omega
                        have h3a' : en ≤ mid := by omega
                        have hsr := sorted_keep (d1 := d2) (sym_right0 HC4.out (.inl h3a') (by omega) (by omega)) (fun i hi hi2 => HP1.out.2.1 i (.inr hi))
                        have hfin := sym_fin hb HP0.out HC4.out (by omega) (by omega) HP1.out HSL.out (permIn_refl d2 _ _) hsr
                        have HFin := Lib.hid hfin
                        clear hfin hsr
                        go_wp2
                        exact bodyPost_end (by simp [results, Try.results76]) rfl ⟨rfl, d2, HFin.out, hS2', hE2⟩
                    · have h2bi : ¬ (sx : Int) < (mid : Int) := by omega
                      have h2b' : mid ≤ sx := by omega
                      have hsl := sym_left0 HC4.out (.inr h2b') (by omega) (by omega)
                      have HP1 := Lib.hid (permIn_refl d1 a mid)
                      have HSL := Lib.hid hsl
                      have HSZ2 := HSZ1
                      have hS2' := hS1'
                      have hE2 := hE1
                      clear hsl hS1' hE1
                      by_cases h3a : mid < en
                      · have h3ai : (mid : Int) < (en : Int) := by omega
                        by_cases h3b : en < b
                        · have h3bi : (en : Int) < (b : Int) := by omega
                          have hc3 := IH.out mid en b d1 w1 (by omega) h3a h3b (by rw [HSZ2.out]; exact hb) (by rw [HSZ2.out]; exact hsz) hS2' (sorted_keep HC4.out.s3 (fun i hi hi2 => HP1.out.2.1 i (.inr hi))) (sorted_keep HC4.out.s4 (fun i hi hi2 => HP1.out.2.1 i (.inr (by omega))))
                          rw [HSZ2.out] at hc3
                          go_wp2_with fail
                          refine hc3.mono ?_
                          rintro e w3 ⟨rfl, d3, ⟨g1, g2⟩, g3, g4⟩
                          have hfin := sym_fin hb HP0.out HC4.out (by omega) (by omega) HP1.out HSL.out g1 g2
                          have HFin := Lib.hid hfin
                          have HE3 := Lib.hid (hE2.trans g4)
                          clear hfin g1 g2 g4 hc3
                          go_wp2
                          exact bodyPost_end (by simp [results, Try.results76]) rfl ⟨rfl, d3, HFin.out, g3, HE3.out⟩
                        · have h3bi : ¬ (en : Int) < (b : Int) := by omega
                          have h3b' : b ≤ en := by omega
                          have hsr := sorted_keep (d1 := d1) (sym_right0 HC4.out (.inr h3b') (by omega) (by omega)) (fun i hi hi2 => HP1.out.2.1 i (.inr hi))
                          have hfin := sym_fin hb HP0.out HC4.out (by omega) (by omega) HP1.out HSL.out (permIn_refl d1 _ _) hsr
                          have HFin := Lib.hid hfin
                          clear hfin hsr
                          go_wp2
                          exact bodyPost_end (by simp [results, Try.results76]) rfl ⟨rfl, d1, HFin.out, hS2', hE2⟩
                      · have h3ai : ¬ (mid : Int) < (en : Int) := by omega
                        have h3a' : en ≤ mid := by omega
                        have hsr := sorted_keep (d1 := d1) (sym_right0 HC4.out (.inl h3a') (by omega) (by omega)) (fun i hi hi2 => HP1.out.2.1 i (.inr hi))
                        have hfin := sym_fin hb HP0.out HC4.out (by omega) (by omega) HP1.out HSL.out (permIn_refl d1 _ _) hsr
                        have HFin := Lib.hid hfin
                        clear hfin hsr
                        go_wp2
                        exact bodyPost_end (by simp [results, Try.results76]) rfl ⟨rfl, d1, HFin.out, hS2', hE2⟩
                  · have h2ai : ¬ (a : Int) < (sx : Int) := by omega
                    have h2a' : sx ≤ a := by omega
                    have hsl := sym_left0 HC4.out (.inl h2a') (by omega) (by omega)
                    have HP1 := Lib.hid (permIn_refl d1 a mid)
                    have HSL := Lib.hid hsl
                    have HSZ2 := HSZ1
                    have hS2' := hS1'
                    have hE2 := hE1
                    clear hsl hS1' hE1
                    by_cases h3a : mid < en
                    · have h3ai : (mid : Int) < (en : Int) := by omega
                      by_cases h3b : en < b
                      · have h3bi : (en : Int) < (b : Int) := by omega
                        have hc3 := IH.out mid en b d1 w1 (by omega) h3a h3b (by rw [HSZ2.out]; exact hb) (by rw [HSZ2.out]; exact hsz) hS2' (sorted_keep HC4.out.s3 (fun i hi hi2 => HP1.out.2.1 i (.inr hi))) (sorted_keep HC4.out.s4 (fun i hi hi2 => HP1.out.2.1 i (.inr (by omega))))
                        rw [HSZ2.out] at hc3
                        go_wp2_with fail
                        refine hc3.mono ?_
                        rintro e w3 ⟨rfl, d3, ⟨g1, g2⟩, g3, g4⟩
                        have hfin := sym_fin hb HP0.out HC4.out (by omega) (by omega) HP1.out HSL.out g1 g2
                        have HFin := Lib.hid hfin
                        have HE3 := Lib.hid (hE2.trans g4)
                        clear hfin g1 g2 g4 hc3
                        go_wp2
                        exact bodyPost_end (by simp [results, Try.results76]) rfl ⟨rfl, d3, HFin.out, g3, HE3.out⟩
                      · have h3bi : ¬ (en : Int) < (b : Int) := by omega
                        have h3b' : b ≤ en := by omega
                        have hsr := sorted_keep (d1 := d1) (sym_right0 HC4.out (.inr h3b') (by omega) (by omega)) (fun i hi hi2 => HP1.out.2.1 i (.inr hi))
                        have hfin := sym_fin hb HP0.out HC4.out (by omega) (by omega) HP1.out HSL.out (permIn_refl d1 _ _) hsr
                        have HFin := Lib.hid hfin
                        clear hfin hsr
                        go_wp2
                        exact bodyPost_end (by simp [results, Try.results76]) rfl ⟨rfl, d1, HFin.out, hS2', hE2⟩
                    · have h3ai : ¬ (mid : Int) < (en : Int) := by omega
                      have h3a' : en ≤ mid := by omega
                      have hsr := sorted_keep (d1 := d1) (sym_right0 HC4.out (.inl h3a') (by omega) (by omega)) (fun i hi hi2 => HP1.out.2.1 i (.inr hi))
                      have hfin := sym_fin hb HP0.out HC4.out (by omega) (by omega) HP1.out HSL.out (permIn_refl d1 _ _) hsr
                      have HFin := Lib.hid hfin
                      clear hfin hsr
                      go_wp2
                      exact bodyPost_end (by simp [results, Try.results76]) rfl ⟨rfl, d1, HFin.out, hS2', hE2⟩
                · have h1bi : ¬ (m : Int) < (en : Int) := by omega
                  have h1b' : en ≤ m := by omega
                  have hc4 := cut4 swo_ltF (a := a) (b := b) (mid := mid) (s := sx) (en := en) (lo := lo) (r0 := mid) HS1.out HS2.out (RotOf.triv (by omega) (by omega) (.inr (by omega))) (by have h9 := HF.out; rw [show mid + m - 1 = p by omega]; exact h9) (by omega) (by omega) (by omega) (by omega) (by omega) (by omega) (by omega) (fun h9 => by omega) (by omega) (fun h9 => by omega) (by omega)
                  have HC4 := Lib.hid hc4
                  have HP0 := Lib.hid (permIn_refl d a b)
                  have hS1' := hS
                  have hE1 := hE
                  clear hc4 hS hE
                  by_cases h2a : a < sx
                  · have h2ai : (a : Int) < (sx : Int) := by omega
                    by_cases h2b : sx < mid
                    · have h2bi : (sx : Int) < (mid : Int) := by omega
                      have hc2 := IH.out a sx mid d wr (by omega) h2a h2b (by omega) (by exact hsz) hS1' HC4.out.s1 HC4.out.s2

                      go_wp2_with fail
                      refine hc2.mono ?_
                      rintro e w2 ⟨rfl, d2, ⟨g1, g2⟩, hS2', g4⟩
                      have HSZ2 := Lib.hid (show d2.size = d.size by rw [g1.1])
                      have HP1 := Lib.hid g1
                      have HSL := Lib.hid g2
                      have hE2 := hE1.trans g4
                      clear g1 g2 g4 hc2 hS1' hE1
                      by_cases h3a : mid < en
                      · have h3ai : (mid : Int) < (en : Int) := by omega
                        by_cases h3b : en < b
                        · have h3bi : (en : Int) < (b : Int) := by omega
                          have hc3 := IH.out mid en b d2 w2 (by omega) h3a h3b (by rw [HSZ2.out]; exact hb) (by rw [HSZ2.out]; exact hsz) hS2' (sorted_keep HC4.out.s3 (fun i hi hi2 => HP1.out.2.1 i (.inr hi))) (sorted_keep HC4.out.s4 (fun i hi hi2 => HP1.out.2.1 i (.inr (by omega))))
                          rw [HSZ2.out] at hc3
                          go_wp2_with fail
                          refine hc3.mono ?_
                          rintro e w3 ⟨rfl, d3, ⟨g1, g2⟩, g3, g4⟩
                          have hfin := sym_fin hb HP0.out HC4.out (by omega) (by omega) HP1.out HSL.out g1 g2
                          have HFin := Lib.hid hfin
                          have HE3 := Lib.hid (hE2.trans g4)
                          clear hfin g1 g2 g4 hc3
                          go_wp2
                          exact bodyPost_end (by simp [results, Try.results76]) rfl ⟨rfl, d3, HFin.out, g3, HE3.out⟩
                        · have h3bi : ¬ (en : Int) < (b : Int) := by omega
                          have h3b' : b ≤ en := by omega
                          have hsr := sorted_keep (d1 := d2) (sym_right0 HC4.out (.inr h3b') (by omega) (by omega)) (fun i hi hi2 => HP1.out.2.1 i (.inr hi))
                          have hfin := sym_fin hb HP0.out HC4.out (by omega) (by omega) HP1.out HSL.out (permIn_refl d2 _ _) hsr
                          have HFin := Lib.hid hfin
                          clear hfin hsr
                          go_wp2
                          exact bodyPost_end (by simp [results, Try.results76]) rfl ⟨rfl, d2, HFin.out, hS2', hE2⟩
                      · have h3ai : ¬ (mid : Int) < (en : Int) := by omega
                        have h3a' : en ≤ mid := by omega
                        have hsr := sorted_keep (d1 := d2) (sym_right0 HC4.out (.inl h3a') (by omega) (by omega)) (fun i hi hi2 => HP1.out.2.1 i (.inr hi))
                        have hfin := sym_fin hb HP0.out HC4.out (by omega) (by omega) HP1.out HSL.out (permIn_refl d2 _ _) hsr
                        have HFin := Lib.hid hfin
                        clear hfin hsr
                        go_wp2
                        exact bodyPost_end (by simp [results, Try.results76]) rfl ⟨rfl, d2, HFin.out, hS2', hE2⟩
                    · have h2bi : ¬ (sx : Int) < (mid : Int) := by omega
                      have h2b' : mid ≤ sx := by omega
                      have hsl := sym_left0 HC4.out (.inr h2b') (by omega) (by omega)
                      have HP1 := Lib.hid (permIn_refl d a mid)
                      have HSL := Lib.hid hsl

                      have hS2' := hS1'
                      have hE2 := hE1
                      clear hsl hS1' hE1
                      by_cases h3a : mid < en
                      · have h3ai : (mid : Int) < (en : Int) := by omega
                        by_cases h3b : en < b
                        · have h3bi : (en : Int) < (b : Int) := by omega
                          have hc3 := IH.out mid en b d wr (by omega) h3a h3b (by exact hb) (by exact hsz) hS2' (sorted_keep HC4.out.s3 (fun i hi hi2 => HP1.out.2.1 i (.inr hi))) (sorted_keep HC4.out.s4 (fun i hi hi2 => HP1.out.2.1 i (.inr (by omega))))

                          go_wp2_with fail
                          refine hc3.mono ?_
                          rintro e w3 ⟨rfl, d3, ⟨g1, g2⟩, g3, g4⟩
                          have hfin := sym_fin hb HP0.out HC4.out (by omega) (by omega) HP1.out HSL.out g1 g2
                          have HFin := Lib.hid hfin
                          have HE3 := Lib.hid (hE2.trans g4)
                          clear hfin g1 g2 g4 hc3
                          go_wp2
                          exact bodyPost_end (by simp [results, Try.results76]) rfl ⟨rfl, d3, HFin.out, g3, HE3.out⟩
                        · have h3bi : ¬ (en : Int) < (b : Int) := by omega
                          have h3b' : b ≤ en := by omega
                          have hsr := sorted_keep (d1 := d) (sym_right0 HC4.out (.inr h3b') (by omega) (by omega)) (fun i hi hi2 => HP1.out.2.1 i (.inr hi))
                          have hfin := sym_fin hb HP0.out HC4.out (by omega) (by omega) HP1.out HSL.out (permIn_refl d _ _) hsr
                          have HFin := Lib.hid hfin
                          clear hfin hsr
                          go_wp2
                          exact bodyPost_end (by simp [results, Try.results76]) rfl ⟨rfl, d, HFin.out, hS2', hE2⟩
                      · have h3ai : ¬ (mid : Int) < (en : Int) := by omega
                        have h3a' : en ≤ mid := by omega
                        have hsr := sorted_keep (d1 := d) (sym_right0 HC4.out (.inl h3a') (by omega) (by omega)) (fun i hi hi2 => HP1.out.2.1 i (.inr hi))
                        have hfin := sym_fin hb HP0.out HC4.out (by omega) (by omega) HP1.out HSL.out (permIn_refl d _ _) hsr
                        have HFin := Lib.hid hfin
                        clear hfin hsr
                        go_wp2
                        exact bodyPost_end (by simp [results, Try.results76]) rfl ⟨rfl, d, HFin.out, hS2', hE2⟩
                  · have h2ai : ¬ (a : Int) < (sx : Int) := by omega
                    have h2a' : sx ≤ a := by omega
                    have hsl := sym_left0 HC4.out (.inl h2a') (by omega) (by omega)
                    have HP1 := Lib.hid (permIn_refl d a mid)
                    have HSL := Lib.hid hsl

                    have hS2' := hS1'
                    have hE2 := hE1
                    clear hsl hS1' hE1
                    by_cases h3a : mid < en
                    · have h3ai : (mid : Int) < (en : Int) := by omega
                      by_cases h3b : en < b
                      · have h3bi : (en : Int) < (b : Int) := by omega
                        have hc3 := IH.out mid en b d wr (by omega) h3a h3b (by exact hb) (by exact hsz) hS2' (sorted_keep HC4.out.s3 (fun i hi hi2 => HP1.out.2.1 i (.inr hi))) (sorted_keep HC4.out.s4 (fun i hi hi2 => HP1.out.2.1 i (.inr (by omega))))

                        go_wp2_with fail
                        refine hc3.mono ?_
                        rintro e w3 ⟨rfl, d3, ⟨g1, g2⟩, g3, g4⟩
                        have hfin := sym_fin hb HP0.out HC4.out (by omega) (by omega) HP1.out HSL.out g1 g2
                        have HFin := Lib.hid hfin
                        have HE3 := Lib.hid (hE2.trans g4)
                        clear hfin g1 g2 g4 hc3
                        go_wp2
                        exact bodyPost_end (by simp [results, Try.results76]) rfl ⟨rfl, d3, HFin.out, g3, HE3.out⟩
                      · have h3bi : ¬ (en : Int) < (b : Int) := by omega
                        have h3b' : b ≤ en := by omega
                        have hsr := sorted_keep (d1 := d) (sym_right0 HC4.out (.inr h3b') (by omega) (by omega)) (fun i hi hi2 => HP1.out.2.1 i (.inr hi))
                        have hfin := sym_fin hb HP0.out HC4.out (by omega) (by omega) HP1.out HSL.out (permIn_refl d _ _) hsr
                        have HFin := Lib.hid hfin
                        clear hfin hsr
                        go_wp2
                        exact bodyPost_end (by simp [results, Try.results76]) rfl ⟨rfl, d, HFin.out, hS2', hE2⟩
                    · have h3ai : ¬ (mid : Int) < (en : Int) := by omega
                      have h3a' : en ≤ mid := by omega
                      have hsr := sorted_keep (d1 := d) (sym_right0 HC4.out (.inl h3a') (by omega) (by omega)) (fun i hi hi2 => HP1.out.2.1 i (.inr hi))
                      have hfin := sym_fin hb HP0.out HC4.out (by omega) (by omega) HP1.out HSL.out (permIn_refl d _ _) hsr
                      have HFin := Lib.hid hfin
                      clear hfin hsr
                      go_wp2
                      exact bodyPost_end (by simp [results, Try.results76]) rfl ⟨rfl, d, HFin.out, hS2', hE2⟩
              · have h1ai : ¬ (sx : Int) < (m : Int) := by omega
                have h1a' : m ≤ sx := by omega
                have hc4 := cut4 swo_ltF (a := a) (b := b) (mid := mid) (s := sx) (en := en) (lo := lo) (r0 := mid) HS1.out HS2.out (RotOf.triv (by omega) (by omega) (.inl (by omega))) (by have h9 := HF.out; rw [show mid + m - 1 = p by omega]; exact h9) (by omega) (by omega) (by omega) (by omega) (by omega) (by omega) (by omega) (fun h9 => by omega) (by omega) (fun h9 => by omega) (by omega)
                have HC4 := Lib.hid hc4
                have HP0 := Lib.hid (permIn_refl d a b)
                have hS1' := hS
                have hE1 := hE
                clear hc4 hS hE
                by_cases h2a : a < sx
                · have h2ai : (a : Int) < (sx : Int) := by omega
                  by_cases h2b : sx < mid
                  · have h2bi : (sx : Int) < (mid : Int) := by omega
                    have hc2 := IH.out a sx mid d wr (by omega) h2a h2b (by omega) (by exact hsz) hS1' HC4.out.s1 HC4.out.s2

                    go_wp2_with fail
                    refine hc2.mono ?_
                    rintro e w2 ⟨rfl, d2, ⟨g1, g2⟩, hS2', g4⟩
                    have HSZ2 := Lib.hid (show d2.size = d.size by rw [g1.1])
                    have HP1 := Lib.hid g1
                    have HSL := Lib.hid g2
                    have hE2 := hE1.trans g4
                    clear g1 g2 g4 hc2 hS1' hE1
                    by_cases h3a : mid < en
                    · have h3ai : (mid : Int) < (en : Int) := by omega
                      by_cases h3b : en < b
                      · have h3bi : (en : Int) < (b : Int) := by omega
                        have hc3 := IH.out mid en b d2 w2 (by omega) h3a h3b (by rw [HSZ2.out]; exact hb) (by rw [HSZ2.out]; exact hsz) hS2' (sorted_keep HC4.out.s3 (fun i hi hi2 => HP1.out.2.1 i (.inr hi))) (sorted_keep HC4.out.s4 (fun i hi hi2 => HP1.out.2.1 i (.inr (by omega))))
                        rw [HSZ2.out] at hc3
                        go_wp2_with fail
                        refine hc3.mono ?_
                        rintro e w3 ⟨rfl, d3, ⟨g1, g2⟩, g3, g4⟩
                        have hfin := sym_fin hb HP0.out HC4.out (by omega) (by omega) HP1.out HSL.out g1 g2
                        have HFin := Lib.hid hfin
                        have HE3 := Lib.hid (hE2.trans g4)
                        clear hfin g1 g2 g4 hc3
                        go_wp2
                        exact bodyPost_end (by simp [results, Try.results76]) rfl ⟨rfl, d3, HFin.out, g3, HE3.out⟩
                      · have h3bi : ¬ (en : Int) < (b : Int) := by omega
                        have h3b' : b ≤ en := by omega
                        have hsr := sorted_keep (d1 := d2) (sym_right0 HC4.out (.inr h3b') (by omega) (by omega)) (fun i hi hi2 => HP1.out.2.1 i (.inr hi))
                        have hfin := sym_fin hb HP0.out HC4.out (by omega) (by omega) HP1.out HSL.out (permIn_refl d2 _ _) hsr
                        have HFin := Lib.hid hfin
                        clear hfin hsr
                        go_wp2
                        exact bodyPost_end (by simp [results, Try.results76]) rfl ⟨rfl, d2, HFin.out, hS2', hE2⟩
                    · have h3ai : ¬ (mid : Int) < (en : Int) := by omega
                      have h3a' : en ≤ mid := by omega
                      have hsr := sorted_keep (d1 := d2) (sym_right0 HC4.out (.inl h3a') (by omega) (by omega)) (fun i hi hi2 => HP1.out.2.1 i (.inr hi))
                      have hfin := sym_fin hb HP0.out HC4.out (by omega) (by omega) HP1.out HSL.out (permIn_refl d2 _ _) hsr
                      have HFin := Lib.hid hfin
                      clear hfin hsr
                      go_wp2
                      exact bodyPost_end (by simp [results, Try.results76]) rfl ⟨rfl, d2, HFin.out, hS2', hE2⟩
                  · have h2bi : ¬ (sx : Int) < (mid : Int) := by omega
                    have h2b' : mid ≤ sx := by omega
                    have hsl := sym_left0 HC4.out (.inr h2b') (by omega) (by omega)
                    have HP1 := Lib.hid (permIn_refl d a mid)
                    have HSL := Lib.hid hsl

                    have hS2' := hS1'
                    have hE2 := hE1
                    clear hsl hS1' hE1
                    by_cases h3a : mid < en
                    · have h3ai : (mid : Int) < (en : Int) := by omega
                      by_cases h3b : en < b
                      · have h3bi : (en : Int) < (b : Int) := by omega
                        have hc3 := IH.out mid en b d wr (by omega) h3a h3b (by exact hb) (by exact hsz) hS2' (sorted_keep HC4.out.s3 (fun i hi hi2 => HP1.out.2.1 i (.inr hi))) (sorted_keep HC4.out.s4 (fun i hi hi2 => HP1.out.2.1 i (.inr (by omega))))

                        go_wp2_with fail
                        refine hc3.mono ?_
                        rintro e w3 ⟨rfl, d3, ⟨g1, g2⟩, g3, g4⟩
                        have hfin := sym_fin hb HP0.out HC4.out (by omega) (by omega) HP1.out HSL.out g1 g2
                        have HFin := Lib.hid hfin
                        have HE3 := Lib.hid (hE2.trans g4)
                        clear hfin g1 g2 g4 hc3
                        go_wp2
                        exact bodyPost_end (by simp [results, Try.results76]) rfl ⟨rfl, d3, HFin.out, g3, HE3.out⟩
                      · have h3bi : ¬ (en : Int) < (b : Int) := by omega
                        have h3b' : b ≤ en := by omega
                        have hsr := sorted_keep (d1 := d) (sym_right0 HC4.out (.inr h3b') (by omega) (by omega)) (fun i hi hi2 => HP1.out.2.1 i (.inr hi))
                        have hfin := sym_fin hb HP0.out HC4.out (by omega) (by omega) HP1.out HSL.out (permIn_refl d _ _) hsr
                        have HFin := Lib.hid hfin
                        clear hfin hsr
                        go_wp2
                        exact bodyPost_end (by simp [results, Try.results76]) rfl ⟨rfl, d, HFin.out, hS2', hE2⟩
                    · have h3ai : ¬ (mid : Int) < (en : Int) := by omega
                      have h3a' : en ≤ mid := by omega
                      have hsr := sorted_keep (d1 := d) (sym_right0 HC4.out (.inl h3a') (by omega) (by omega)) (fun i hi hi2 => HP1.out.2.1 i (.inr hi))
                      have hfin := sym_fin hb HP0.out HC4.out (by omega) (by omega) HP1.out HSL.out (permIn_refl d _ _) hsr
                      have HFin := Lib.hid hfin
                      clear hfin hsr
                      go_wp2
                      exact bodyPost_end (by simp [results, Try.results76]) rfl ⟨rfl, d, HFin.out, hS2', hE2⟩
                · have h2ai : ¬ (a : Int) < (sx : Int) := by omega
                  have h2a' : sx ≤ a := by omega
                  have hsl := sym_left0 HC4.out (.inl h2a') (by omega) (by omega)
                  have HP1 := Lib.hid (permIn_refl d a mid)
                  have HSL := Lib.hid hsl

                  have hS2' := hS1'
                  have hE2 := hE1
                  clear hsl hS1' hE1
                  by_cases h3a : mid < en
                  · have h3ai : (mid : Int) < (en : Int) := by omega
                    by_cases h3b : en < b
                    · have h3bi : (en : Int) < (b : Int) := by omega
                      have hc3 := IH.out mid en b d wr (by omega) h3a h3b (by exact hb) (by exact hsz) hS2' (sorted_keep HC4.out.s3 (fun i hi hi2 => HP1.out.2.1 i (.inr hi))) (sorted_keep HC4.out.s4 (fun i hi hi2 => HP1.out.2.1 i (.inr (by omega))))

                      go_wp2_with fail
                      refine hc3.mono ?_
                      rintro e w3 ⟨rfl, d3, ⟨g1, g2⟩, g3, g4⟩
                      have hfin := sym_fin hb HP0.out HC4.out (by omega) (by omega) HP1.out HSL.out g1 g2
                      have HFin := Lib.hid hfin
                      have HE3 := Lib.hid (hE2.trans g4)
                      clear hfin g1 g2 g4 hc3
                      go_wp2
                      exact bodyPost_end (by simp [results, Try.results76]) rfl ⟨rfl, d3, HFin.out, g3, HE3.out⟩
                    · have h3bi : ¬ (en : Int) < (b : Int) := by omega
                      have h3b' : b ≤ en := by omega
                      have hsr := sorted_keep (d1 := d) (sym_right0 HC4.out (.inr h3b') (by omega) (by omega)) (fun i hi hi2 => HP1.out.2.1 i (.inr hi))
                      have hfin := sym_fin hb HP0.out HC4.out (by omega) (by omega) HP1.out HSL.out (permIn_refl d _ _) hsr
                      have HFin := Lib.hid hfin
                      clear hfin hsr
                      go_wp2
                      exact bodyPost_end (by simp [results, Try.results76]) rfl ⟨rfl, d, HFin.out, hS2', hE2⟩
                  · have h3ai : ¬ (mid : Int) < (en : Int) := by omega
                    have h3a' : en ≤ mid := by omega
                    have hsr := sorted_keep (d1 := d) (sym_right0 HC4.out (.inl h3a') (by omega) (by omega)) (fun i hi hi2 => HP1.out.2.1 i (.inr hi))
                    have hfin := sym_fin hb HP0.out HC4.out (by omega) (by omega) HP1.out HSL.out (permIn_refl d _ _) hsr
                    have HFin := Lib.hid hfin
                    clear hfin hsr
                    go_wp2
                    exact bodyPost_end (by simp [results, Try.results76]) rfl ⟨rfl, d, HFin.out, hS2', hE2⟩
        · have hc3 : ¬ (mid : Int) < (m : Int) := by omega
          go_wp2
          go_loopw [20, 21] (fun ii jj wr => ∃ (i j : Nat), a ≤ i ∧ i ≤ j ∧ j ≤ m ∧ ii = .int .i64 i ∧ jj = .int .i64 j ∧ Hid (FindCut ltF p a m i j d) ∧ SR B g cap d wr ∧ Exc (DG g) w wr) (fun ii jj _ => (intOf jj).toNat - (intOf ii).toNat)
          case atStart => exact ⟨a, m, Nat.le_refl _, by omega, Nat.le_refl _, rfl, rfl, Lib.hid (FindCut.start _ _ _ _ _), h, exc_refl _ _⟩
          case round =>
            clear h
            obtain ⟨i, j, hmi, hij, hjb, rfl, rfl, HF, hS, hE⟩ := hrel
            by_cases hlt : i < j
            · have hki : (i : Int) < (j : Int) := by omega
              obtain ⟨s, hs⟩ : ∃ s : Nat, i + j = s := ⟨_, rfl⟩
              obtain ⟨h, hh⟩ : ∃ h : Nat, s / 2 = h := ⟨_, rfl⟩
              have hsi : (i : Int) + (j : Int) = (s : Int) := by omega
              have hhi : (s : Int) / 2 = (h : Int) := by omega
              have iws : IntKind.i64.wrap (s : Int) = (s : Int) := IntWalk.i64_in _ (by omega)
              have hih : i ≤ h ∧ h < j := by omega
              clear hs hh
              obtain ⟨pc, hpc⟩ : ∃ k : Nat, p - h = k := ⟨_, rfl⟩
              have hpci : (p : Int) - (h : Int) = (pc : Int) := by omega
              have iwpc : IntKind.i64.wrap (pc : Int) = (pc : Int) := IntWalk.i64_in _ (by omega)
              have hXs : pc < d.size := by omega
              have hYs : h < d.size := by omega
              have hXd : pc < d.size := by omega
              have hYd : h < d.size := by omega
              have HPC := Lib.hid hpc
              clear hpc
              obtain ⟨fx, hfx⟩ : ∃ f, d[pc]! = f := ⟨_, rfl⟩
              obtain ⟨fy, hfy⟩ : ∃ f, d[h]! = f := ⟨_, rfl⟩
              have hnx := hS.lo pc hXs
              have hny := hS.lo h hYs
              rw [hfx] at hnx
              rw [hfy] at hny
              have hcx := hS.capd
              have hXc : pc < cap := by omega
              have hYc : h < cap := by omega
              have HFX := Lib.hid hfx
              have HFY := Lib.hid hfy
              have HS9 := Lib.hid hS
              have HNX := Lib.hid hnx
              have HNY := Lib.hid hny
              clear hfx hfy hS hnx hny hcx
              by_cases hlv : cmpB fx.lo fy.lo < 0
              · have hcv : ltF d[pc]! d[h]! = true := by rw [HFX.out, HFY.out]; exact decide_eq_true hlv
                have hdec : decide (cmpB fx.lo fy.lo < 0) = true := decide_eq_true hlv
                have HF2 := Lib.hid (HF.out.down swo_ltF HS1.out HS2.out (show a ≤ a by omega) (show a ≤ h by omega) (show m ≤ m by omega) (by omega) (by omega) (by rw [HPC.out]; exact hcv))
                clear hcv
                go_wp2
                refine wp_region_rg Ext rel_ext (fun _ => True) [0, 1, 2, 3, 4, 5, 6, 7, 8, 9, 10, 11, 12, 13] (fun i => match i with
                  | 11 => some fun _ v w' => v = .int .i64 (cmpB fx.lo fy.lo)
                  | _ => none) (fun _ => none) (fun _ => false) (by kernel_rfl) (by kernel_rfl) (fun _ _ _ _ => trivial) trivial (fun W9 N hW _ hN => ?_)
                have hEW : Ext wr W9 := hW
                have a0 : ∀ w', Ext wr w' → w'.cell? ⟨g, pc * 3, none⟩ = some (.slice fx.lA fx.lo.length fx.lc) := fun w' h => by rw [← HFX.out]; exact (HS9.out.ext h).c0 hXs
                have a1 : ∀ w', Ext wr w' → w'.cell? ⟨g, pc * 3 + 1, none⟩ = some (.slice fx.hA fx.hi.length fx.hc) := fun w' h => by rw [← HFX.out]; exact (HS9.out.ext h).c1 hXs
                have a2 : ∀ w', Ext wr w' → w'.cell? ⟨g, pc * 3 + 2, none⟩ = some (.bool fx.op) := fun w' h => by rw [← HFX.out]; exact (HS9.out.ext h).c2 hXs
                have b0 : ∀ w', Ext wr w' → w'.cell? ⟨g, h * 3, none⟩ = some (.slice fy.lA fy.lo.length fy.lc) := fun w' h => by rw [← HFY.out]; exact (HS9.out.ext h).c0 hYs
                have b1 : ∀ w', Ext wr w' → w'.cell? ⟨g, h * 3 + 1, none⟩ = some (.slice fy.hA fy.hi.length fy.hc) := fun w' h => by rw [← HFY.out]; exact (HS9.out.ext h).c1 hYs
                have b2 : ∀ w', Ext wr w' → w'.cell? ⟨g, h * 3 + 2, none⟩ = some (.bool fy.op) := fun w' h => by rw [← HFY.out]; exact (HS9.out.ext h).c2 hYs
                repeat (first | (apply wpR_one; (case ho => (simp only [List.getElem?_toArray, List.getElem?_cons_succ, List.getElem?_cons_zero]; try exact rfl)); (case hw => rfl); (case hl => rfl); (case hsp => rfl); (case he => rfl); (case hv => (intro w' hw'; (try (have hw2 := Ext.trans hEW hw')); (try (have hw3 := Exc.trans hEW hw')); (try (have hw4 := Exk.trans hEW hw')); (try (have hw5 := Mrk.trans hEW hw')); go_simp; exact rfl)); (case hw0 => (first | exact Below.refl _ _ | exact Exc.of_ext (Below.refl _ _) | exact Exk.of_ext (Below.refl _ _) | exact Mrk.of_ext (Below.refl _ _))); simp only [Act.put, List.setIfInBounds_toArray, List.set_cons_succ, List.set_cons_zero]) | (apply wpR_early; (case ho => (simp only [List.getElem?_toArray, List.getElem?_cons_succ, List.getElem?_cons_zero]; try exact rfl)); (case hw => rfl); (case hl => rfl); (case hsp => rfl); (case he => rfl); (case hv => (intro w' hw'; (try have hw2 := Ext.trans hEW hw'); go_simp; exact rfl)); simp only [Act.put, List.setIfInBounds_toArray, List.set_cons_succ, List.set_cons_zero]) | (apply wpR_pass; (case ho => (simp only [List.getElem?_toArray, List.getElem?_cons_succ, List.getElem?_cons_zero]; try exact rfl)); (case hw => rfl); (case hl => rfl); simp only [Act.put, List.setIfInBounds_toArray, List.set_cons_succ, List.set_cons_zero]))
                refine wpR_new (by ((simp only [List.getElem?_toArray, List.getElem?_cons_succ, List.getElem?_cons_zero]; try exact rfl))) _ rfl rfl rfl (fun V v => Lasts.pure) (fun V V' h => rfl) (fun w' hw' hK => ?_) (fun v hv => ?_)
                · have hEE := hEW.trans hw'
                  clear hK
                  unfold opAt; go_simp; refine upAt_enter ?_
                  refine (cov1_any (HNX.out.sl.ext hEE) (HNY.out.sl.ext hEE)).mono ?_
                  rintro e w2 ⟨rfl, hE2⟩
                  exact ⟨_, rfl, hE2, rfl⟩
                obtain ⟨_, _, _, rfl⟩ := hv
                simp only [Act.put, List.setIfInBounds_toArray, List.set_cons_succ, List.set_cons_zero]
                repeat (first | (apply wpR_one; (case ho => (simp only [List.getElem?_toArray, List.getElem?_cons_succ, List.getElem?_cons_zero]; try exact rfl)); (case hw => rfl); (case hl => rfl); (case hsp => rfl); (case he => rfl); (case hv => (intro w' hw'; (try (have hw2 := Ext.trans hEW hw')); (try (have hw3 := Exc.trans hEW hw')); (try (have hw4 := Exk.trans hEW hw')); (try (have hw5 := Mrk.trans hEW hw')); go_simp; exact rfl)); (case hw0 => (first | exact Below.refl _ _ | exact Exc.of_ext (Below.refl _ _) | exact Exk.of_ext (Below.refl _ _) | exact Mrk.of_ext (Below.refl _ _))); simp only [Act.put, List.setIfInBounds_toArray, List.set_cons_succ, List.set_cons_zero]) | (apply wpR_early; (case ho => (simp only [List.getElem?_toArray, List.getElem?_cons_succ, List.getElem?_cons_zero]; try exact rfl)); (case hw => rfl); (case hl => rfl); (case hsp => rfl); (case he => rfl); (case hv => (intro w' hw'; (try have hw2 := Ext.trans hEW hw'); go_simp; exact rfl)); simp only [Act.put, List.setIfInBounds_toArray, List.set_cons_succ, List.set_cons_zero]) | (apply wpR_pass; (case ho => (simp only [List.getElem?_toArray, List.getElem?_cons_succ, List.getElem?_cons_zero]; try exact rfl)); (case hw => rfl); (case hl => rfl); simp only [Act.put, List.setIfInBounds_toArray, List.set_cons_succ, List.set_cons_zero]))
                apply wpR_nil
                apply hN
                intro w5 hE9 hK _
                have hE5 := hEW.trans hE9
                clear hK hN a0 a1 a2 b0 b1 b2 hEW hE9 hW
                have HS8 := Lib.hid (HS9.out.ext hE5)
                have HE8 := Lib.hid (hE.trans (Exc.of_ext hE5))
                clear HFX HFY HS9 HNX HNY hE5 hE
                go_wp2
                go_roundw
                case rel => exact ⟨i, h, hmi, by omega, by omega, rfl, rfl, HF2, HS8.out, HE8.out⟩
                case measure => simp [intOf]; omega
              · have hcv : ltF d[pc]! d[h]! = false := by rw [HFX.out, HFY.out]; exact decide_eq_false hlv
                have hdec : decide (cmpB fx.lo fy.lo < 0) = false := decide_eq_false hlv
                have HF2 := Lib.hid (HF.out.up swo_ltF HS1.out HS2.out (show a ≤ a by omega) (show h < m by omega) (show m ≤ m by omega) (by omega) (by omega) (by rw [HPC.out]; exact hcv))
                clear hcv
                go_wp2
                refine wp_region_rg Ext rel_ext (fun _ => True) [0, 1, 2, 3, 4, 5, 6, 7, 8, 9, 10, 11, 12, 13] (fun i => match i with
                  | 11 => some fun _ v w' => v = .int .i64 (cmpB fx.lo fy.lo)
                  | _ => none) (fun _ => none) (fun _ => false) (by kernel_rfl) (by kernel_rfl) (fun _ _ _ _ => trivial) trivial (fun W9 N hW _ hN => ?_)
                have hEW : Ext wr W9 := hW
                have a0 : ∀ w', Ext wr w' → w'.cell? ⟨g, pc * 3, none⟩ = some (.slice fx.lA fx.lo.length fx.lc) := fun w' h => by rw [← HFX.out]; exact (HS9.out.ext h).c0 hXs
                have a1 : ∀ w', Ext wr w' → w'.cell? ⟨g, pc * 3 + 1, none⟩ = some (.slice fx.hA fx.hi.length fx.hc) := fun w' h => by rw [← HFX.out]; exact (HS9.out.ext h).c1 hXs
                have a2 : ∀ w', Ext wr w' → w'.cell? ⟨g, pc * 3 + 2, none⟩ = some (.bool fx.op) := fun w' h => by rw [← HFX.out]; exact (HS9.out.ext h).c2 hXs
                have b0 : ∀ w', Ext wr w' → w'.cell? ⟨g, h * 3, none⟩ = some (.slice fy.lA fy.lo.length fy.lc) := fun w' h => by rw [← HFY.out]; exact (HS9.out.ext h).c0 hYs
                have b1 : ∀ w', Ext wr w' → w'.cell? ⟨g, h * 3 + 1, none⟩ = some (.slice fy.hA fy.hi.length fy.hc) := fun w' h => by rw [← HFY.out]; exact (HS9.out.ext h).c1 hYs
                have b2 : ∀ w', Ext wr w' → w'.cell? ⟨g, h * 3 + 2, none⟩ = some (.bool fy.op) := fun w' h => by rw [← HFY.out]; exact (HS9.out.ext h).c2 hYs
                repeat (first | (apply wpR_one; (case ho => (simp only [List.getElem?_toArray, List.getElem?_cons_succ, List.getElem?_cons_zero]; try exact rfl)); (case hw => rfl); (case hl => rfl); (case hsp => rfl); (case he => rfl); (case hv => (intro w' hw'; (try (have hw2 := Ext.trans hEW hw')); (try (have hw3 := Exc.trans hEW hw')); (try (have hw4 := Exk.trans hEW hw')); (try (have hw5 := Mrk.trans hEW hw')); go_simp; exact rfl)); (case hw0 => (first | exact Below.refl _ _ | exact Exc.of_ext (Below.refl _ _) | exact Exk.of_ext (Below.refl _ _) | exact Mrk.of_ext (Below.refl _ _))); simp only [Act.put, List.setIfInBounds_toArray, List.set_cons_succ, List.set_cons_zero]) | (apply wpR_early; (case ho => (simp only [List.getElem?_toArray, List.getElem?_cons_succ, List.getElem?_cons_zero]; try exact rfl)); (case hw => rfl); (case hl => rfl); (case hsp => rfl); (case he => rfl); (case hv => (intro w' hw'; (try have hw2 := Ext.trans hEW hw'); go_simp; exact rfl)); simp only [Act.put, List.setIfInBounds_toArray, List.set_cons_succ, List.set_cons_zero]) | (apply wpR_pass; (case ho => (simp only [List.getElem?_toArray, List.getElem?_cons_succ, List.getElem?_cons_zero]; try exact rfl)); (case hw => rfl); (case hl => rfl); simp only [Act.put, List.setIfInBounds_toArray, List.set_cons_succ, List.set_cons_zero]))
                refine wpR_new (by ((simp only [List.getElem?_toArray, List.getElem?_cons_succ, List.getElem?_cons_zero]; try exact rfl))) _ rfl rfl rfl (fun V v => Lasts.pure) (fun V V' h => rfl) (fun w' hw' hK => ?_) (fun v hv => ?_)
                · have hEE := hEW.trans hw'
                  clear hK
                  unfold opAt; go_simp; refine upAt_enter ?_
                  refine (cov1_any (HNX.out.sl.ext hEE) (HNY.out.sl.ext hEE)).mono ?_
                  rintro e w2 ⟨rfl, hE2⟩
                  exact ⟨_, rfl, hE2, rfl⟩
                obtain ⟨_, _, _, rfl⟩ := hv
                simp only [Act.put, List.setIfInBounds_toArray, List.set_cons_succ, List.set_cons_zero]
                repeat (first | (apply wpR_one; (case ho => (simp only [List.getElem?_toArray, List.getElem?_cons_succ, List.getElem?_cons_zero]; try exact rfl)); (case hw => rfl); (case hl => rfl); (case hsp => rfl); (case he => rfl); (case hv => (intro w' hw'; (try (have hw2 := Ext.trans hEW hw')); (try (have hw3 := Exc.trans hEW hw')); (try (have hw4 := Exk.trans hEW hw')); (try (have hw5 := Mrk.trans hEW hw')); go_simp; exact rfl)); (case hw0 => (first | exact Below.refl _ _ | exact Exc.of_ext (Below.refl _ _) | exact Exk.of_ext (Below.refl _ _) | exact Mrk.of_ext (Below.refl _ _))); simp only [Act.put, List.setIfInBounds_toArray, List.set_cons_succ, List.set_cons_zero]) | (apply wpR_early; (case ho => (simp only [List.getElem?_toArray, List.getElem?_cons_succ, List.getElem?_cons_zero]; try exact rfl)); (case hw => rfl); (case hl => rfl); (case hsp => rfl); (case he => rfl); (case hv => (intro w' hw'; (try have hw2 := Ext.trans hEW hw'); go_simp; exact rfl)); simp only [Act.put, List.setIfInBounds_toArray, List.set_cons_succ, List.set_cons_zero]) | (apply wpR_pass; (case ho => (simp only [List.getElem?_toArray, List.getElem?_cons_succ, List.getElem?_cons_zero]; try exact rfl)); (case hw => rfl); (case hl => rfl); simp only [Act.put, List.setIfInBounds_toArray, List.set_cons_succ, List.set_cons_zero]))
                apply wpR_nil
                apply hN
                intro w5 hE9 hK _
                have hE5 := hEW.trans hE9
                clear hK hN a0 a1 a2 b0 b1 b2 hEW hE9 hW
                have HS8 := Lib.hid (HS9.out.ext hE5)
                have HE8 := Lib.hid (hE.trans (Exc.of_ext hE5))
                clear HFX HFY HS9 HNX HNY hE5 hE
                go_wp2
                go_roundw
                case rel => exact ⟨h + 1, j, by omega, by omega, hjb, by go_num, rfl, HF2, HS8.out, HE8.out⟩
                case measure => simp [intOf]; omega
            · have hij2 : i = j := by omega
              subst hij2
              obtain ⟨sx, hsx⟩ : ∃ k : Nat, i = k := ⟨_, rfl⟩
              rw [hsx] at hmi hjb HF ⊢
              obtain ⟨en, hen⟩ : ∃ k : Nat, n - sx = k := ⟨_, rfl⟩
              have heni : (n : Int) - (sx : Int) = (en : Int) := by omega
              have iwen : IntKind.i64.wrap (en : Int) = (en : Int) := IntWalk.i64_in _ (by omega)
              clear hsx hij hlt
              by_cases h1a : sx < m
              · have h1ai : (sx : Int) < (m : Int) := by omega
                by_cases h1b : m < en
                · have h1bi : (m : Int) < (en : Int) := by omega
                  have hc1 := rotate_any hS h1a h1b (show en ≤ d.size by omega) hsz
                  go_wp2_with fail
                  refine hc1.mono ?_
                  rintro e w1 ⟨rfl, d1, g1, g2, hS1', g4⟩
                  have HSZ1 := Lib.hid (show d1.size = d.size from g2.1)
                  have hc4 := cut4 swo_ltF (a := a) (b := b) (mid := mid) (s := sx) (en := en) (lo := a) (r0 := m) HS1.out HS2.out (g1) (by have h9 := HF.out; rw [show mid + m - 1 = p by omega]; exact h9) (by omega) (by omega) (by omega) (by omega) (by omega) (by omega) (by omega) (fun h9 => by omega) (by omega) (fun h9 => by omega) (by omega)
                  have HC4 := Lib.hid hc4
                  have HP0 := Lib.hid (permIn_mono _ _ _ _ a b (show a ≤ sx by omega) (show en ≤ b by omega) hb g2)
                  have hE1 := hE.trans g4
                  clear g1 g2 g4 hc1 hc4 hS hE
                  by_cases h2a : a < sx
                  · have h2ai : (a : Int) < (sx : Int) := by omega
                    by_cases h2b : sx < mid
                    · have h2bi : (sx : Int) < (mid : Int) := by omega
                      have hc2 := IH.out a sx mid d1 w1 (by omega) h2a h2b (by have := HSZ1.out; omega) (by rw [HSZ1.out]; exact hsz) hS1' HC4.out.s1 HC4.out.s2
                      rw [HSZ1.out] at hc2
                      go_wp2_with fail
                      refine hc2.mono ?_
                      rintro e w2 ⟨rfl, d2, ⟨g1, g2⟩, hS2', g4⟩
                      have HSZ2 := Lib.hid (show d2.size = d.size by rw [g1.1, HSZ1.out])
                      have HP1 := Lib.hid g1
                      have HSL := Lib.hid g2
                      have hE2 := hE1.trans g4
                      clear g1 g2 g4 hc2 hS1' hE1
                      by_cases h3a : mid < en
                      · have h3ai : (mid : Int) < (en : Int) := by omega
                        by_cases h3b : en < b
                        · have h3bi : (en : Int) < (b : Int) := by omega
                          have hc3 := IH.out mid en b d2 w2 (by omega) h3a h3b (by rw [HSZ2.out]; exact hb) (by rw [HSZ2.out]; exact hsz) hS2' (sorted_keep HC4.out.s3 (fun i hi hi2 => HP1.out.2.1 i (.inr hi))) (sorted_keep HC4.out.s4 (fun i hi hi2 => HP1.out.2.1 i (.inr (by omega))))
                          rw [HSZ2.out] at hc3
                          go_wp2_with fail
                          refine hc3.mono ?_
                          rintro e w3 ⟨rfl, d3, ⟨g1, g2⟩, g3, g4⟩
                          have hfin := sym_fin hb HP0.out HC4.out (by omega) (by omega) HP1.out HSL.out g1 g2
                          have HFin := Lib.hid hfin
                          have HE3 := Lib.hid (hE2.trans g4)
                          clear hfin g1 g2 g4 hc3
                          go_wp2
                          exact bodyPost_end (by simp [results, Try.results76]) rfl ⟨rfl, d3, HFin.out, g3, HE3.out⟩
                        · have h3bi : ¬ (en : Int) < (b : Int) := by omega
                          have h3b' : b ≤ en := by omega
                          have hsr := sorted_keep (d1 := d2) (sym_right0 HC4.out (.inr h3b') (by omega) (by omega)) (fun i hi hi2 => HP1.out.2.1 i (.inr hi))
                          have hfin := sym_fin hb HP0.out HC4.out (by omega) (by omega) HP1.out HSL.out (permIn_refl d2 _ _) hsr
                          have HFin := Lib.hid hfin
                          clear hfin hsr
                          go_wp2
                          exact bodyPost_end (by simp [results, Try.results76]) rfl ⟨rfl, d2, HFin.out, hS2', hE2⟩
                      · have h3ai : ¬ (mid : Int) < (en : Int) := by omega
                        have h3a' : en ≤ mid := by omega
                        have hsr := sorted_keep (d1 := d2) (sym_right0 HC4.out (.inl h3a') (by omega) (by omega)) (fun i hi hi2 => HP1.out.2.1 i (.inr hi))
                        have hfin := sym_fin hb HP0.out HC4.out (by omega) (by omega) HP1.out HSL.out (permIn_refl d2 _ _) hsr
                        have HFin := Lib.hid hfin
                        clear hfin hsr
                        go_wp2
                        exact bodyPost_end (by simp [results, Try.results76]) rfl ⟨rfl, d2, HFin.out, hS2', hE2⟩
                    · have h2bi : ¬ (sx : Int) < (mid : Int) := by omega
                      have h2b' : mid ≤ sx := by omega
                      have hsl := sym_left0 HC4.out (.inr h2b') (by omega) (by omega)
                      have HP1 := Lib.hid (permIn_refl d1 a mid)
                      have HSL := Lib.hid hsl
                      have HSZ2 := HSZ1
                      have hS2' := hS1'
                      have hE2 := hE1
                      clear hsl hS1' hE1
                      by_cases h3a : mid < en
                      · have h3ai : (mid : Int) < (en : Int) := by omega
                        by_cases h3b : en < b
                        · have h3bi : (en : Int) < (b : Int) := by omega
                          have hc3 := IH.out mid en b d1 w1 (by omega) h3a h3b (by rw [HSZ2.out]; exact hb) (by rw [HSZ2.out]; exact hsz) hS2' (sorted_keep HC4.out.s3 (fun i hi hi2 => HP1.out.2.1 i (.inr hi))) (sorted_keep HC4.out.s4 (fun i hi hi2 => HP1.out.2.1 i (.inr (by omega))))
                          rw [HSZ2.out] at hc3
                          go_wp2_with fail
                          refine hc3.mono ?_
                          rintro e w3 ⟨rfl, d3, ⟨g1, g2⟩, g3, g4⟩
                          have hfin := sym_fin hb HP0.out HC4.out (by omega) (by omega) HP1.out HSL.out g1 g2
                          have HFin := Lib.hid hfin
                          have HE3 := Lib.hid (hE2.trans g4)
                          clear hfin g1 g2 g4 hc3
                          go_wp2
                          exact bodyPost_end (by simp [results, Try.results76]) rfl ⟨rfl, d3, HFin.out, g3, HE3.out⟩
                        · have h3bi : ¬ (en : Int) < (b : Int) := by omega
                          have h3b' : b ≤ en := by omega
                          have hsr := sorted_keep (d1 := d1) (sym_right0 HC4.out (.inr h3b') (by omega) (by omega)) (fun i hi hi2 => HP1.out.2.1 i (.inr hi))
                          have hfin := sym_fin hb HP0.out HC4.out (by omega) (by omega) HP1.out HSL.out (permIn_refl d1 _ _) hsr
                          have HFin := Lib.hid hfin
                          clear hfin hsr
                          go_wp2
                          exact bodyPost_end (by simp [results, Try.results76]) rfl ⟨rfl, d1, HFin.out, hS2', hE2⟩
                      · have h3ai : ¬ (mid : Int) < (en : Int) := by omega
                        have h3a' : en ≤ mid := by omega
                        have hsr := sorted_keep (d1 := d1) (sym_right0 HC4.out (.inl h3a') (by omega) (by omega)) (fun i hi hi2 => HP1.out.2.1 i (.inr hi))
                        have hfin := sym_fin hb HP0.out HC4.out (by omega) (by omega) HP1.out HSL.out (permIn_refl d1 _ _) hsr
                        have HFin := Lib.hid hfin
                        clear hfin hsr
                        go_wp2
                        exact bodyPost_end (by simp [results, Try.results76]) rfl ⟨rfl, d1, HFin.out, hS2', hE2⟩
                  · have h2ai : ¬ (a : Int) < (sx : Int) := by omega
                    have h2a' : sx ≤ a := by omega
                    have hsl := sym_left0 HC4.out (.inl h2a') (by omega) (by omega)
                    have HP1 := Lib.hid (permIn_refl d1 a mid)
                    have HSL := Lib.hid hsl
                    have HSZ2 := HSZ1
                    have hS2' := hS1'
                    have hE2 := hE1
                    clear hsl hS1' hE1
                    by_cases h3a : mid < en
                    · have h3ai : (mid : Int) < (en : Int) := by omega
                      by_cases h3b : en < b
                      · have h3bi : (en : Int) < (b : Int) := by omega
                        have hc3 := IH.out mid en b d1 w1 (by omega) h3a h3b (by rw [HSZ2.out]; exact hb) (by rw [HSZ2.out]; exact hsz) hS2' (sorted_keep HC4.out.s3 (fun i hi hi2 => HP1.out.2.1 i (.inr hi))) (sorted_keep HC4.out.s4 (fun i hi hi2 => HP1.out.2.1 i (.inr (by omega))))
                        rw [HSZ2.out] at hc3
                        go_wp2_with fail
                        refine hc3.mono ?_
                        rintro e w3 ⟨rfl, d3, ⟨g1, g2⟩, g3, g4⟩
                        have hfin := sym_fin hb HP0.out HC4.out (by omega) (by omega) HP1.out HSL.out g1 g2
                        have HFin := Lib.hid hfin
                        have HE3 := Lib.hid (hE2.trans g4)
                        clear hfin g1 g2 g4 hc3
                        go_wp2
                        exact bodyPost_end (by simp [results, Try.results76]) rfl ⟨rfl, d3, HFin.out, g3, HE3.out⟩
                      · have h3bi : ¬ (en : Int) < (b : Int) := by omega
                        have h3b' : b ≤ en := by omega
                        have hsr := sorted_keep (d1 := d1) (sym_right0 HC4.out (.inr h3b') (by omega) (by omega)) (fun i hi hi2 => HP1.out.2.1 i (.inr hi))
                        have hfin := sym_fin hb HP0.out HC4.out (by omega) (by omega) HP1.out HSL.out (permIn_refl d1 _ _) hsr
                        have HFin := Lib.hid hfin
                        clear hfin hsr
                        go_wp2
                        exact bodyPost_end (by simp [results, Try.results76]) rfl ⟨rfl, d1, HFin.out, hS2', hE2⟩
                    · have h3ai : ¬ (mid : Int) < (en : Int) := by omega
                      have h3a' : en ≤ mid := by omega
                      have hsr := sorted_keep (d1 := d1) (sym_right0 HC4.out (.inl h3a') (by omega) (by omega)) (fun i hi hi2 => HP1.out.2.1 i (.inr hi))
                      have hfin := sym_fin hb HP0.out HC4.out (by omega) (by omega) HP1.out HSL.out (permIn_refl d1 _ _) hsr
                      have HFin := Lib.hid hfin
                      clear hfin hsr
                      go_wp2
                      exact bodyPost_end (by simp [results, Try.results76]) rfl ⟨rfl, d1, HFin.out, hS2', hE2⟩
                · have h1bi : ¬ (m : Int) < (en : Int) := by omega
                  have h1b' : en ≤ m := by omega
                  have hc4 := cut4 swo_ltF (a := a) (b := b) (mid := mid) (s := sx) (en := en) (lo := a) (r0 := m) HS1.out HS2.out (RotOf.triv (by omega) (by omega) (.inr (by omega))) (by have h9 := HF.out; rw [show mid + m - 1 = p by omega]; exact h9) (by omega) (by omega) (by omega) (by omega) (by omega) (by omega) (by omega) (fun h9 => by omega) (by omega) (fun h9 => by omega) (by omega)
                  have HC4 := Lib.hid hc4
                  have HP0 := Lib.hid (permIn_refl d a b)
                  have hS1' := hS
                  have hE1 := hE
                  clear hc4 hS hE
                  by_cases h2a : a < sx
                  · have h2ai : (a : Int) < (sx : Int) := by omega
                    by_cases h2b : sx < mid
                    · have h2bi : (sx : Int) < (mid : Int) := by omega
                      have hc2 := IH.out a sx mid d wr (by omega) h2a h2b (by omega) (by exact hsz) hS1' HC4.out.s1 HC4.out.s2

                      go_wp2_with fail
                      refine hc2.mono ?_
                      rintro e w2 ⟨rfl, d2, ⟨g1, g2⟩, hS2', g4⟩
                      have HSZ2 := Lib.hid (show d2.size = d.size by rw [g1.1])
                      have HP1 := Lib.hid g1
                      have HSL := Lib.hid g2
                      have hE2 := hE1.trans g4
                      clear g1 g2 g4 hc2 hS1' hE1
                      by_cases h3a : mid < en
                      · have h3ai : (mid : Int) < (en : Int) := by omega
                        by_cases h3b : en < b
                        · have h3bi : (en : Int) < (b : Int) := by omega
                          have hc3 := IH.out mid en b d2 w2 (by omega) h3a h3b (by rw [HSZ2.out]; exact hb) (by rw [HSZ2.out]; exact hsz) hS2' (sorted_keep HC4.out.s3 (fun i hi hi2 => HP1.out.2.1 i (.inr hi))) (sorted_keep HC4.out.s4 (fun i hi hi2 => HP1.out.2.1 i (.inr (by omega))))
                          rw [HSZ2.out] at hc3
                          go_wp2_with fail
                          refine hc3.mono ?_
                          rintro e w3 ⟨rfl, d3, ⟨g1, g2⟩, g3, g4⟩
                          have hfin := sym_fin hb HP0.out HC4.out (by omega) (by omega) HP1.out HSL.out g1 g2
                          have HFin := Lib.hid hfin
                          have HE3 := Lib.hid (hE2.trans g4)
                          clear hfin g1 g2 g4 hc3
                          go_wp2
                          exact bodyPost_end (by simp [results, Try.results76]) rfl ⟨rfl, d3, HFin.out, g3, HE3.out⟩
                        · have h3bi : ¬ (en : Int) < (b : Int) := by omega
                          have h3b' : b ≤ en := by omega
                          have hsr := sorted_keep (d1 := d2) (sym_right0 HC4.out (.inr h3b') (by omega) (by omega)) (fun i hi hi2 => HP1.out.2.1 i (.inr hi))
                          have hfin := sym_fin hb HP0.out HC4.out (by omega) (by omega) HP1.out HSL.out (permIn_refl d2 _ _) hsr
                          have HFin := Lib.hid hfin
                          clear hfin hsr
                          go_wp2
                          exact bodyPost_end (by simp [results, Try.results76]) rfl ⟨rfl, d2, HFin.out, hS2', hE2⟩
                      · have h3ai : ¬ (mid : Int) < (en : Int) := by omega
                        have h3a' : en ≤ mid := by omega
                        have hsr := sorted_keep (d1 := d2) (sym_right0 HC4.out (.inl h3a') (by omega) (by omega)) (fun i hi hi2 => HP1.out.2.1 i (.inr hi))
                        have hfin := sym_fin hb HP0.out HC4.out (by omega) (by omega) HP1.out HSL.out (permIn_refl d2 _ _) hsr
                        have HFin := Lib.hid hfin
                        clear hfin hsr
                        go_wp2
                        exact bodyPost_end (by simp [results, Try.results76]) rfl ⟨rfl, d2, HFin.out, hS2', hE2⟩
                    · have h2bi : ¬ (sx : Int) < (mid : Int) := by omega
                      have h2b' : mid ≤ sx := by omega
                      have hsl := sym_left0 HC4.out (.inr h2b') (by omega) (by omega)
                      have HP1 := Lib.hid (permIn_refl d a mid)
                      have HSL := Lib.hid hsl

                      have hS2' := hS1'
                      have hE2 := hE1
                      clear hsl hS1' hE1
                      by_cases h3a : mid < en
                      · have h3ai : (mid : Int) < (en : Int) := by omega
                        by_cases h3b : en < b
                        · have h3bi : (en : Int) < (b : Int) := by omega
                          have hc3 := IH.out mid en b d wr (by omega) h3a h3b (by exact hb) (by exact hsz) hS2' (sorted_keep HC4.out.s3 (fun i hi hi2 => HP1.out.2.1 i (.inr hi))) (sorted_keep HC4.out.s4 (fun i hi hi2 => HP1.out.2.1 i (.inr (by omega))))

                          go_wp2_with fail
                          refine hc3.mono ?_
                          rintro e w3 ⟨rfl, d3, ⟨g1, g2⟩, g3, g4⟩
                          have hfin := sym_fin hb HP0.out HC4.out (by omega) (by omega) HP1.out HSL.out g1 g2
                          have HFin := Lib.hid hfin
                          have HE3 := Lib.hid (hE2.trans g4)
                          clear hfin g1 g2 g4 hc3
                          go_wp2
                          exact bodyPost_end (by simp [results, Try.results76]) rfl ⟨rfl, d3, HFin.out, g3, HE3.out⟩
                        · have h3bi : ¬ (en : Int) < (b : Int) := by omega
                          have h3b' : b ≤ en := by omega
                          have hsr := sorted_keep (d1 := d) (sym_right0 HC4.out (.inr h3b') (by omega) (by omega)) (fun i hi hi2 => HP1.out.2.1 i (.inr hi))
                          have hfin := sym_fin hb HP0.out HC4.out (by omega) (by omega) HP1.out HSL.out (permIn_refl d _ _) hsr
                          have HFin := Lib.hid hfin
                          clear hfin hsr
                          go_wp2
                          exact bodyPost_end (by simp [results, Try.results76]) rfl ⟨rfl, d, HFin.out, hS2', hE2⟩
                      · have h3ai : ¬ (mid : Int) < (en : Int) := by omega
                        have h3a' : en ≤ mid := by omega
                        have hsr := sorted_keep (d1 := d) (sym_right0 HC4.out (.inl h3a') (by omega) (by omega)) (fun i hi hi2 => HP1.out.2.1 i (.inr hi))
                        have hfin := sym_fin hb HP0.out HC4.out (by omega) (by omega) HP1.out HSL.out (permIn_refl d _ _) hsr
                        have HFin := Lib.hid hfin
                        clear hfin hsr
                        go_wp2
                        exact bodyPost_end (by simp [results, Try.results76]) rfl ⟨rfl, d, HFin.out, hS2', hE2⟩
                  · have h2ai : ¬ (a : Int) < (sx : Int) := by omega
                    have h2a' : sx ≤ a := by omega
                    have hsl := sym_left0 HC4.out (.inl h2a') (by omega) (by omega)
                    have HP1 := Lib.hid (permIn_refl d a mid)
                    have HSL := Lib.hid hsl

                    have hS2' := hS1'
                    have hE2 := hE1
                    clear hsl hS1' hE1
                    by_cases h3a : mid < en
                    · have h3ai : (mid : Int) < (en : Int) := by omega
                      by_cases h3b : en < b
                      · have h3bi : (en : Int) < (b : Int) := by omega
                        have hc3 := IH.out mid en b d wr (by omega) h3a h3b (by exact hb) (by exact hsz) hS2' (sorted_keep HC4.out.s3 (fun i hi hi2 => HP1.out.2.1 i (.inr hi))) (sorted_keep HC4.out.s4 (fun i hi hi2 => HP1.out.2.1 i (.inr (by omega))))

                        go_wp2_with fail
                        refine hc3.mono ?_
                        rintro e w3 ⟨rfl, d3, ⟨g1, g2⟩, g3, g4⟩
                        have hfin := sym_fin hb HP0.out HC4.out (by omega) (by omega) HP1.out HSL.out g1 g2
                        have HFin := Lib.hid hfin
                        have HE3 := Lib.hid (hE2.trans g4)
                        clear hfin g1 g2 g4 hc3
                        go_wp2
                        exact bodyPost_end (by simp [results, Try.results76]) rfl ⟨rfl, d3, HFin.out, g3, HE3.out⟩
                      · have h3bi : ¬ (en : Int) < (b : Int) := by omega
                        have h3b' : b ≤ en := by omega
                        have hsr := sorted_keep (d1 := d) (sym_right0 HC4.out (.inr h3b') (by omega) (by omega)) (fun i hi hi2 => HP1.out.2.1 i (.inr hi))
                        have hfin := sym_fin hb HP0.out HC4.out (by omega) (by omega) HP1.out HSL.out (permIn_refl d _ _) hsr
                        have HFin := Lib.hid hfin
                        clear hfin hsr
                        go_wp2
                        exact bodyPost_end (by simp [results, Try.results76]) rfl ⟨rfl, d, HFin.out, hS2', hE2⟩
                    · have h3ai : ¬ (mid : Int) < (en : Int) := by omega
                      have h3a' : en ≤ mid := by omega
                      have hsr := sorted_keep (d1 := d) (sym_right0 HC4.out (.inl h3a') (by omega) (by omega)) (fun i hi hi2 => HP1.out.2.1 i (.inr hi))
                      have hfin := sym_fin hb HP0.out HC4.out (by omega) (by omega) HP1.out HSL.out (permIn_refl d _ _) hsr
                      have HFin := Lib.hid hfin
                      clear hfin hsr
                      go_wp2
                      exact bodyPost_end (by simp [results, Try.results76]) rfl ⟨rfl, d, HFin.out, hS2', hE2⟩
              · have h1ai : ¬ (sx : Int) < (m : Int) := by omega
                have h1a' : m ≤ sx := by omega
                have hc4 := cut4 swo_ltF (a := a) (b := b) (mid := mid) (s := sx) (en := en) (lo := a) (r0 := m) HS1.out HS2.out (RotOf.triv (by omega) (by omega) (.inl (by omega))) (by have h9 := HF.out; rw [show mid + m - 1 = p by omega]; exact h9) (by omega) (by omega) (by omega) (by omega) (by omega) (by omega) (by omega) (fun h9 => by omega) (by omega) (fun h9 => by omega) (by omega)
                have HC4 := Lib.hid hc4
                have HP0 := Lib.hid (permIn_refl d a b)
                have hS1' := hS
                have hE1 := hE
                clear hc4 hS hE
                by_cases h2a : a < sx
                · have h2ai : (a : Int) < (sx : Int) := by omega
                  by_cases h2b : sx < mid
                  · have h2bi : (sx : Int) < (mid : Int) := by omega
                    have hc2 := IH.out a sx mid d wr (by omega) h2a h2b (by omega) (by exact hsz) hS1' HC4.out.s1 HC4.out.s2

                    go_wp2_with fail
                    refine hc2.mono ?_
                    rintro e w2 ⟨rfl, d2, ⟨g1, g2⟩, hS2', g4⟩
                    have HSZ2 := Lib.hid (show d2.size = d.size by rw [g1.1])
                    have HP1 := Lib.hid g1
                    have HSL := Lib.hid g2
                    have hE2 := hE1.trans g4
                    clear g1 g2 g4 hc2 hS1' hE1
                    by_cases h3a : mid < en
                    · have h3ai : (mid : Int) < (en : Int) := by omega
                      by_cases h3b : en < b
                      · have h3bi : (en : Int) < (b : Int) := by omega
                        have hc3 := IH.out mid en b d2 w2 (by omega) h3a h3b (by rw [HSZ2.out]; exact hb) (by rw [HSZ2.out]; exact hsz) hS2' (sorted_keep HC4.out.s3 (fun i hi hi2 => HP1.out.2.1 i (.inr hi))) (sorted_keep HC4.out.s4 (fun i hi hi2 => HP1.out.2.1 i (.inr (by omega))))
                        rw [HSZ2.out] at hc3
                        go_wp2_with fail
                        refine hc3.mono ?_
                        rintro e w3 ⟨rfl, d3, ⟨g1, g2⟩, g3, g4⟩
                        have hfin := sym_fin hb HP0.out HC4.out (by omega) (by omega) HP1.out HSL.out g1 g2
                        have HFin := Lib.hid hfin
                        have HE3 := Lib.hid (hE2.trans g4)
                        clear hfin g1 g2 g4 hc3
                        go_wp2
                        exact bodyPost_end (by simp [results, Try.results76]) rfl ⟨rfl, d3, HFin.out, g3, HE3.out⟩
                      · have h3bi : ¬ (en : Int) < (b : Int) := by omega
                        have h3b' : b ≤ en := by omega
                        have hsr := sorted_keep (d1 := d2) (sym_right0 HC4.out (.inr h3b') (by omega) (by omega)) (fun i hi hi2 => HP1.out.2.1 i (.inr hi))
                        have hfin := sym_fin hb HP0.out HC4.out (by omega) (by omega) HP1.out HSL.out (permIn_refl d2 _ _) hsr
                        have HFin := Lib.hid hfin
                        clear hfin hsr
                        go_wp2
                        exact bodyPost_end (by simp [results, Try.results76]) rfl ⟨rfl, d2, HFin.out, hS2', hE2⟩
                    · have h3ai : ¬ (mid : Int) < (en : Int) := by omega
                      have h3a' : en ≤ mid := by omega
                      have hsr := sorted_keep (d1 := d2) (sym_right0 HC4.out (.inl h3a') (by omega) (by omega)) (fun i hi hi2 => HP1.out.2.1 i (.inr hi))
                      have hfin := sym_fin hb HP0.out HC4.out (by omega) (by omega) HP1.out HSL.out (permIn_refl d2 _ _) hsr
                      have HFin := Lib.hid hfin
                      clear hfin hsr
                      go_wp2
                      exact bodyPost_end (by simp [results, Try.results76]) rfl ⟨rfl, d2, HFin.out, hS2', hE2⟩
                  · have h2bi : ¬ (sx : Int) < (mid : Int) := by omega
                    have h2b' : mid ≤ sx := by omega
                    have hsl := sym_left0 HC4.out (.inr h2b') (by omega) (by omega)
                    have HP1 := Lib.hid (permIn_refl d a mid)
                    have HSL := Lib.hid hsl

                    have hS2' := hS1'
                    have hE2 := hE1
                    clear hsl hS1' hE1
                    by_cases h3a : mid < en
                    · have h3ai : (mid : Int) < (en : Int) := by omega
                      by_cases h3b : en < b
                      · have h3bi : (en : Int) < (b : Int) := by omega
                        have hc3 := IH.out mid en b d wr (by omega) h3a h3b (by exact hb) (by exact hsz) hS2' (sorted_keep HC4.out.s3 (fun i hi hi2 => HP1.out.2.1 i (.inr hi))) (sorted_keep HC4.out.s4 (fun i hi hi2 => HP1.out.2.1 i (.inr (by omega))))

                        go_wp2_with fail
                        refine hc3.mono ?_
                        rintro e w3 ⟨rfl, d3, ⟨g1, g2⟩, g3, g4⟩
                        have hfin := sym_fin hb HP0.out HC4.out (by omega) (by omega) HP1.out HSL.out g1 g2
                        have HFin := Lib.hid hfin
                        have HE3 := Lib.hid (hE2.trans g4)
                        clear hfin g1 g2 g4 hc3
                        go_wp2
                        exact bodyPost_end (by simp [results, Try.results76]) rfl ⟨rfl, d3, HFin.out, g3, HE3.out⟩
                      · have h3bi : ¬ (en : Int) < (b : Int) := by omega
                        have h3b' : b ≤ en := by omega
                        have hsr := sorted_keep (d1 := d) (sym_right0 HC4.out (.inr h3b') (by omega) (by omega)) (fun i hi hi2 => HP1.out.2.1 i (.inr hi))
                        have hfin := sym_fin hb HP0.out HC4.out (by omega) (by omega) HP1.out HSL.out (permIn_refl d _ _) hsr
                        have HFin := Lib.hid hfin
                        clear hfin hsr
                        go_wp2
                        exact bodyPost_end (by simp [results, Try.results76]) rfl ⟨rfl, d, HFin.out, hS2', hE2⟩
                    · have h3ai : ¬ (mid : Int) < (en : Int) := by omega
                      have h3a' : en ≤ mid := by omega
                      have hsr := sorted_keep (d1 := d) (sym_right0 HC4.out (.inl h3a') (by omega) (by omega)) (fun i hi hi2 => HP1.out.2.1 i (.inr hi))
                      have hfin := sym_fin hb HP0.out HC4.out (by omega) (by omega) HP1.out HSL.out (permIn_refl d _ _) hsr
                      have HFin := Lib.hid hfin
                      clear hfin hsr
                      go_wp2
                      exact bodyPost_end (by simp [results, Try.results76]) rfl ⟨rfl, d, HFin.out, hS2', hE2⟩
                · have h2ai : ¬ (a : Int) < (sx : Int) := by omega
                  have h2a' : sx ≤ a := by omega
                  have hsl := sym_left0 HC4.out (.inl h2a') (by omega) (by omega)
                  have HP1 := Lib.hid (permIn_refl d a mid)
                  have HSL := Lib.hid hsl

                  have hS2' := hS1'
                  have hE2 := hE1
                  clear hsl hS1' hE1
                  by_cases h3a : mid < en
                  · have h3ai : (mid : Int) < (en : Int) := by omega
                    by_cases h3b : en < b
                    · have h3bi : (en : Int) < (b : Int) := by omega
                      have hc3 := IH.out mid en b d wr (by omega) h3a h3b (by exact hb) (by exact hsz) hS2' (sorted_keep HC4.out.s3 (fun i hi hi2 => HP1.out.2.1 i (.inr hi))) (sorted_keep HC4.out.s4 (fun i hi hi2 => HP1.out.2.1 i (.inr (by omega))))

                      go_wp2_with fail
                      refine hc3.mono ?_
                      rintro e w3 ⟨rfl, d3, ⟨g1, g2⟩, g3, g4⟩
                      have hfin := sym_fin hb HP0.out HC4.out (by omega) (by omega) HP1.out HSL.out g1 g2
                      have HFin := Lib.hid hfin
                      have HE3 := Lib.hid (hE2.trans g4)
                      clear hfin g1 g2 g4 hc3
                      go_wp2
                      exact bodyPost_end (by simp [results, Try.results76]) rfl ⟨rfl, d3, HFin.out, g3, HE3.out⟩
                    · have h3bi : ¬ (en : Int) < (b : Int) := by omega
                      have h3b' : b ≤ en := by omega
                      have hsr := sorted_keep (d1 := d) (sym_right0 HC4.out (.inr h3b') (by omega) (by omega)) (fun i hi hi2 => HP1.out.2.1 i (.inr hi))
                      have hfin := sym_fin hb HP0.out HC4.out (by omega) (by omega) HP1.out HSL.out (permIn_refl d _ _) hsr
                      have HFin := Lib.hid hfin
                      clear hfin hsr
                      go_wp2
                      exact bodyPost_end (by simp [results, Try.results76]) rfl ⟨rfl, d, HFin.out, hS2', hE2⟩
                  · have h3ai : ¬ (mid : Int) < (en : Int) := by omega
                    have h3a' : en ≤ mid := by omega
                    have hsr := sorted_keep (d1 := d) (sym_right0 HC4.out (.inl h3a') (by omega) (by omega)) (fun i hi hi2 => HP1.out.2.1 i (.inr hi))
                    have hfin := sym_fin hb HP0.out HC4.out (by omega) (by omega) HP1.out HSL.out (permIn_refl d _ _) hsr
                    have HFin := Lib.hid hfin
                    clear hfin hsr
                    go_wp2
                    exact bodyPost_end (by simp [results, Try.results76]) rfl ⟨rfl, d, HFin.out, hS2', hE2⟩
end Go.Proofs.Ytijlaknfagpglaa
