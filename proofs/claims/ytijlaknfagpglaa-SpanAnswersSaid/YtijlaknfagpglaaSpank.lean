/- Contracts of the reference's above and Between. No condition but that each list lies in memory as a slice. -/
import Derived.Test.YtijlaknfagpglaaSpang
namespace Go.Proofs.Ytijlaknfagpglaa
open Go.RowKit Go.Proofs
theorem incB_ff (m : Nat) : incB (List.replicate m 255) = none := by
  induction m with
  | zero => rfl
  | succ m ih => rw [List.replicate_succ]; simp only [incB]; rw [ih]; rfl
theorem incB_app (p : List UInt8) (x : UInt8) (m : Nat) (h : x ≠ 255) : incB (p ++ x :: List.replicate m 255) = some (p ++ (x + 1) :: List.replicate m 0) := by
  induction p with
  | nil => simp only [List.nil_append, incB, incB_ff, if_neg h, List.length_replicate]
  | cons a p ih => rw [List.cons_append]; simp only [incB, ih, List.cons_append]
theorem Stem.inc_none {p : List UInt8} (h : Stem p 0) : incB p = none := by
  have := h.2
  rw [List.drop_zero] at this
  rw [this]
  exact incB_ff _
/-- As far as j the row, zeros behind. -/
def zeroed (p : List UInt8) (j : Nat) : List UInt8 := p.take j ++ List.replicate (p.length - j) 0
theorem length_zeroed {p : List UInt8} {j : Nat} (h : j ≤ p.length) : (zeroed p j).length = p.length := by simp [zeroed]; omega
theorem at_zeroed {p : List UInt8} {j i : Nat} (h : i < j) (hj : j ≤ p.length) : at8 (zeroed p j) i = at8 p i := by
  unfold at8 zeroed
  simp only [List.getD_eq_getElem?_getD]
  rw [List.getElem?_append_left (by simp; omega), List.getElem?_take, if_pos h]
theorem zeroed_set {p : List UInt8} {j : Nat} (h : j < p.length) (b : UInt8) : (zeroed p (j + 1)).set j b = p.take j ++ b :: List.replicate (p.length - (j + 1)) 0 := by
  unfold zeroed
  rw [List.set_append_left _ _ (by simp; omega), List.take_succ_eq_append_getElem h, List.set_append_right _ _ (by simp; omega), show j - (p.take j).length = 0 by simp; omega]
  simp
theorem zeroed_step {p : List UInt8} {j : Nat} (h : j < p.length) : (zeroed p (j + 1)).set j 0 = zeroed p j := by
  rw [zeroed_set h]
  unfold zeroed
  rw [show p.length - j = (p.length - (j + 1)) + 1 by omega, List.replicate_succ]
theorem Stem.inc_some {p : List UInt8} {j : Nat} (h : Stem p (j + 1)) (he : at8 p j ≠ 255) : incB p = some ((zeroed p (j + 1)).set j (b8 (at8 p j + 1))) := by
  have hk : j < p.length := h.1
  have e1 : p = p.take j ++ p[j] :: List.replicate (p.length - (j + 1)) 255 := by
    have e0 : p.take (j + 1) ++ p.drop (j + 1) = p := List.take_append_drop _ _
    rw [h.2, List.take_succ_eq_append_getElem hk] at e0
    rw [List.append_assoc] at e0
    exact e0.symm
  have e2 : at8 p j = (p[j].toNat : Int) := by simp [at8, hk]
  have e3 : p[j] ≠ 255 := fun e => he (by rw [e2, e]; rfl)
  have e4 : b8 (at8 p j + 1) = p[j] + 1 := by
    apply UInt8.toNat_inj.1
    have h1 := b8_toNat (at8 p j + 1)
    have h2 := p[j].toNat_lt
    rw [UInt8.toNat_add]
    show (b8 (at8 p j + 1)).toNat = (p[j].toNat + 1) % 256
    omega
  rw [zeroed_set hk, e4]
  conv => lhs; rw [e1]
  exact incB_app _ _ _ e3
/-- The row that above's first loop lays. -/
def padN (a : List UInt8) (n : Nat) : List UInt8 := (a ++ List.replicate n 0).take n
theorem length_padN (a : List UInt8) (n : Nat) : (padN a n).length = n := by simp [padN]
theorem at_padN {a : List UInt8} {n i : Nat} (h : i < n) : at8 (padN a n) i = at8 a i := by
  unfold at8 padN
  simp only [List.getD_eq_getElem?_getD]
  rw [List.getElem?_take, if_pos h]
  by_cases ha : i < a.length
  · rw [List.getElem?_append_left ha]
  · rw [List.getElem?_append_right (by omega), List.getElem?_replicate, if_pos (by omega), List.getElem?_eq_none (by omega)]
    rfl
theorem at_end {a : List UInt8} {i : Nat} (h : a.length ≤ i) : at8 a i = 0 := by
  unfold at8
  simp [List.getElem?_eq_none h]
theorem padN_long {a : List UInt8} {n : Nat} (h : a.length < n) : aboveN a n = some (padN a n) := by
  unfold aboveN padN
  rw [if_pos h, List.take_append, List.take_of_length_le (by omega), List.take_replicate, Nat.min_eq_left (by omega)]
theorem padN_short {a : List UInt8} {n : Nat} (h : n ≤ a.length) : aboveN a n = incB (padN a n) := by
  unfold aboveN padN
  rw [if_neg (by omega), List.take_append_of_le_length h]
def abvK (a : List UInt8) (n : Nat) : List UInt8 := (aboveN a n).getD []
set_option maxRecDepth 8000 in
set_option maxHeartbeats 2000000 in
theorem rabove_any {A : Option Addr} {c m n : Nat} {bs : List UInt8} {w : World} (h : Sl w A c bs) (hm : m = bs.length) (hn : n ≤ 24) :
    Calls Try.prog 47 #[.slice A m c, .int .i64 (n : Int)] w fun e w' => ∃ A' c', e = .returned (.slice A' (abvK bs n).length c') ∧ Own 5 w.heap.size w' A' c' (abvK bs n) ∧ Ext w w' := by
  subst hm
  obtain ⟨i0, hi, hz0, hz1, hz2⟩ := info_parts infoU8
  have hl := h.len
  have hpl := length_padN bs n
  have hat : ∀ i, i < n → at8 (padN bs n) i = at8 bs i := fun i hi => at_padN hi
  have hlong : bs.length < n → aboveN bs n = some (padN bs n) := padN_long
  have hshort : n ≤ bs.length → aboveN bs n = incB (padN bs n) := padN_short
  obtain ⟨p, hp⟩ : ∃ p, padN bs n = p := ⟨_, rfl⟩
  rw [hp] at hpl hat hlong hshort
  clear hp
  have HPL := Lib.hid hpl
  have HAT := Lib.hid hat
  have HLO := Lib.hid hlong
  have HSH := Lib.hid hshort
  clear hpl hat hlong hshort
  go_enter Try.func47, Try.ntmps47
  go_wp2
  go_loopw [5, 6] (fun v i wr => ∃ k : Nat, k ≤ n ∧ i = .int .i64 k ∧ wr.ownsRow w.heap.size 5 1 v k (cells8 (p.take k)) ∧ Ext w wr) (fun _ i _ => n - (intOf i).toNat)
  case atStart => exact ⟨0, Nat.zero_le _, rfl, ⟨rfl, .inr ⟨w.heap.size, 0, #[], rfl, Nat.le_refl _, heap_alloc_new _ _, Nat.le_refl _, by decide, rfl, rfl⟩⟩, ext_alloc _ _⟩
  case round =>
    obtain ⟨k, hk, rfl, hown, hE⟩ := hrel
    by_cases hlt : k < n
    · have hnx : cells8 (p.take (k + 1)) = cells8 (p.take k) ++ [.int .u8 (at8 bs k)] := by rw [take_at8 (by rw [HPL.out]; exact hlt), HAT.out k hlt]
      by_cases hkb : k < bs.length
      · obtain ⟨b, off, rfl, hc⟩ := (h.rd.ext hE) (by omega)
        have hck := hc k hkb
        clear hc
        go_wp2_with (at_builtin; refine wpList_append_own _ rfl _ _ 22 rfl w.heap.size 5 i0 (.int .u8 0) 1 1 Try.underlying22 hi hz0 hz1 hz2 rfl (by decide) _ _ _ rfl (hown.alloc _) ⟨wr.heap.size, 0, none⟩ 1 1 [.int .u8 (at8 bs k)] rfl rfl (cell_one_new _ _ _) (by simp [Value.oneCell']) (by simp [maxLen]; omega) (by omega) (by have := hE.size; simp; omega) ?_; intro v' w2 hown2 hgrow2 _)
        have hE2 := ext_append hE hown hgrow2
        rw [← hnx] at hown2
        clear hgrow2 hown hE hck hnx
        go_wp2
        go_roundw
        case rel => exact ⟨k + 1, by omega, by go_num, hown2, hE2⟩
        case measure => simp [intOf]; omega
      · rw [at_end (by omega)] at hnx
        go_wp2_with (at_builtin; refine wpList_append_own _ rfl _ _ 22 rfl w.heap.size 5 i0 (.int .u8 0) 1 1 Try.underlying22 hi hz0 hz1 hz2 rfl (by decide) _ _ _ rfl (hown.alloc _) ⟨wr.heap.size, 0, none⟩ 1 1 [.int .u8 0] rfl rfl (cell_one_new _ _ _) (by simp [Value.oneCell']) (by simp [maxLen]; omega) (by omega) (by have := hE.size; simp; omega) ?_; intro v' w2 hown2 hgrow2 _)
        have hE2 := ext_append hE hown hgrow2
        rw [← hnx] at hown2
        clear hgrow2 hown hE hnx
        go_wp2
        go_roundw
        case rel => exact ⟨k + 1, by omega, by go_num, hown2, hE2⟩
        case measure => simp [intOf]; omega
    · obtain rfl : k = n := by omega
      rw [List.take_of_length_le (by rw [HPL.out]; exact Nat.le_refl _)] at hown
      obtain ⟨A', c', rfl⟩ := slice_of_own hown
      have ho : Own 5 w.heap.size wr A' c' p := by unfold Own; rw [HPL.out]; exact hown
      clear hown
      by_cases hlg : bs.length < k
      · have hq : abvK bs k = p := by unfold abvK; rw [HLO.out hlg]; rfl
        have HQ := Lib.hid hq
        clear hq
        go_wp2
        go_ret
        rw [HQ.out, HPL.out]
        exact ⟨A', c', rfl, ho, hE⟩
      · have hq : abvK bs k = (incB p).getD [] := by unfold abvK; rw [HSH.out (by omega)]
        have HQ := Lib.hid hq
        have hst0 := Stem.start p
        rw [HPL.out] at hst0
        clear hq
        rcases Nat.eq_zero_or_pos k with hk0 | hk0
        · subst hk0
          have hnn := Lib.hid hst0.inc_none
          go_wp2
          go_loopw [7] (fun i wq => i = .int .i64 (-1) ∧ Ext w wq) (fun _ _ => 0)
          case atStart => exact ⟨by go_num, hE⟩
          case round =>
            obtain ⟨rfl, hE2⟩ := hrel
            go_wp2
            go_ret
            rw [HQ.out, hnn.out]
            exact ⟨none, 0, rfl, ⟨rfl, .inl ⟨rfl, rfl⟩⟩, hE2⟩
        · obtain ⟨g, rfl, hg⟩ := ho.form (by rw [HPL.out]; exact hk0)
          have hz : p = zeroed p k := by unfold zeroed; rw [List.take_of_length_le (by rw [HPL.out]; exact Nat.le_refl _), HPL.out]; simp
          rw [hz] at ho
          clear hz
          go_wp2
          go_loopw [7] (fun i wq => ∃ j : Nat, j ≤ k ∧ i = .int .i64 ((j : Int) - 1) ∧ Stem p j ∧ Own 5 w.heap.size wq (some ⟨g, 0, none⟩) c' (zeroed p j) ∧ Ext w wq) (fun i _ => (intOf i + 1).toNat)
          case atStart => exact ⟨k, Nat.le_refl _, by go_num, hst0, ho, hE⟩
          case round =>
            obtain ⟨j, hjk, rfl, hst, ho, hE⟩ := hrel
            by_cases hj : 0 < j
            · obtain ⟨i, rfl⟩ : ∃ i, j = i + 1 := ⟨j - 1, by omega⟩
              have hzl := length_zeroed (p := p) (j := i + 1) (by rw [HPL.out]; exact hjk)
              have hck := ho.cell (i := i) (by rw [hzl, HPL.out]; omega)
              rw [at_zeroed (Nat.lt_succ_self i) (by rw [HPL.out]; exact hjk)] at hck
              have hfr := ho.frozen i
              have hone : ((i + 1 : Nat) : Int) - 1 = (i : Int) := by omega
              rw [hone]
              by_cases he : at8 p i = 255
              · have hs2 := hst.step he
                have h1 : at8 p i ≤ 255 := by omega
                have h2 : 255 ≤ at8 p i := by omega
                have ho2 := ho.set_ i 0
                rw [zeroed_step (by rw [HPL.out]; omega)] at ho2
                have hE2 := ext_store (p := ⟨g, i, none⟩) hE hg (.int .u8 0)
                clear he hzl hone ho
                go_wp2
                go_roundw
                case rel => exact ⟨i, by omega, by go_num, hs2, ho2, hE2⟩
                case measure => simp [intOf]
              · have h1 : at8 p i < 255 := by have := at8_bd p i; omega
                have h3 : 0 ≤ at8 p i := (at8_bd p i).1
                have hne : (at8 p i == 255) = false := by simp; omega
                have hinc := Lib.hid (hst.inc_some he)
                have ho2 := ho.set_ i (b8 (at8 p i + 1))
                rw [b8_toNat, Int.emod_eq_of_lt (by omega) (by omega)] at ho2
                have hE2 := ext_store (p := ⟨g, i, none⟩) hE hg (.int .u8 (at8 p i + 1))
                have HZ := Lib.hid hzl
                clear he hzl hone ho
                go_wp2
                go_ret
                rw [HQ.out, hinc.out]
                exact ⟨some ⟨g, 0, none⟩, c', ret_slice (by simp [HZ.out, HPL.out]), ho2, hE2⟩
            · obtain rfl : j = 0 := by omega
              have hnn := Lib.hid hst.inc_none
              go_wp2
              go_ret
              rw [HQ.out, hnn.out]
              exact ⟨none, 0, rfl, ⟨rfl, .inl ⟨rfl, rfl⟩⟩, hE⟩
theorem aboveN_len {a k : List UInt8} {n : Nat} (h : aboveN a n = some k) : k.length = n := (aboveN_some h).1
theorem first_hit {a b k : List UInt8} {f n : Nat} (h : aboveN a n = some k) (hb : LeB k b) : firstN a b (f + 1) n = some k := by
  simp only [firstN, h, if_pos hb]
theorem first_miss {a b : List UInt8} {f n : Nat} (h : ∀ k, aboveN a n = some k → ¬ LeB k b) : firstN a b (f + 1) n = firstN a b f (n + 1) := by
  simp only [firstN]
  cases hq : aboveN a n with
  | none => rfl
  | some k => simp only []; rw [if_neg (h k hq)]
set_option maxRecDepth 8000 in
set_option maxHeartbeats 2000000 in
theorem rbetween_any {A B : Option Addr} {c d n m : Nat} {xs ys : List UInt8} {w : World} (ha : Sl w A c xs) (hb : Sl w B d ys) (hn : n = xs.length) (hm : m = ys.length) :
    Calls Try.prog 22 #[.slice A n c, .slice B m d] w fun e w' => ∃ A' c', e = .returned (.tuple #[.slice A' (betwK xs ys).length c', .bool (betwB xs ys).isSome]) ∧ Own 5 w.heap.size w' A' c' (betwK xs ys) ∧ Ext w w' := by
  subst hn
  subst hm
  have hR := Lib.hid (refBetw_eq xs ys)
  go_enter Try.func22, Try.ntmps22
  go_wp2
  go_loopw [6] (fun i wr => ∃ k : Nat, 1 ≤ k ∧ k ≤ 25 ∧ i = .int .i64 k ∧ RowKit.Hid (refBetw xs ys = firstN xs ys (25 - k) k) ∧ Ext w wr) (fun i _ => 25 - (intOf i).toNat)
  case atStart => exact ⟨1, Nat.le_refl _, by omega, rfl, Lib.hid rfl, Below.refl _ _⟩
  case round =>
    obtain ⟨k, hk1, hk, rfl, hF, hE⟩ := hrel
    by_cases hlt : k ≤ 24
    · go_wp2_with fail
      refine (rabove_any (ha.ext hE) rfl hlt).mono ?_
      rintro e w1 ⟨A1, c1, rfl, ho, hE1⟩
      replace hE1 := hE.trans hE1
      have ho1 := ho.mono hE.size
      cases hq : aboveN xs k with
      | none =>
        have hk0 : abvK xs k = [] := by unfold abvK; rw [hq]; rfl
        have hF2 := Lib.hid (show refBetw xs ys = firstN xs ys (25 - (k + 1)) (k + 1) by
          rw [hF.out, show 25 - k = (25 - (k + 1)) + 1 by omega]
          exact first_miss (fun q h => by rw [hq] at h; cases h))
        have hne : ¬ 0 = k := by omega
        rw [hk0]
        clear hq hk0 ho ho1
        go_wp2
        go_roundw
        case rel => exact ⟨k + 1, by omega, by omega, by go_num, hF2, hE1⟩
        case measure => simp [intOf]; omega
      | some q =>
        have hk0 : abvK xs k = q := by unfold abvK; rw [hq]; rfl
        have hql := aboveN_len hq
        rw [hk0] at ho1 ⊢
        have s1 := ho1.sl (by omega)
        have HQL := Lib.hid hql
        rw [hql]
        clear hql
        go_wp2_with fail
        refine (cmp_any s1 (hb.ext hE1) HQL.out.symm rfl).mono ?_
        rintro e w2 ⟨rfl, hE2⟩
        by_cases hc : cmpB q ys ≤ 0
        · have hR2 := Lib.hid (show betwB xs ys = some q by
            rw [← hR.out, hF.out, show 25 - k = (24 - k) + 1 by omega]
            exact first_hit hq hc)
          clear hq hk0
          go_wp2
          go_ret2
          unfold betwK
          rw [hR2.out]
          exact ⟨A1, c1, by rw [← HQL.out]; rfl, ho1.ext hE2, hE1.trans hE2⟩
        · have hF2 := Lib.hid (show refBetw xs ys = firstN xs ys (25 - (k + 1)) (k + 1) by
            rw [hF.out, show 25 - k = (25 - (k + 1)) + 1 by omega]
            exact first_miss (fun r h => by rw [hq] at h; injection h with h; subst h; exact hc))
          have hc2 : 0 < cmpB q ys := by omega
          clear hq hk0 hc
          go_wp2
          go_roundw
          case rel => exact ⟨k + 1, by omega, by omega, by go_num, hF2, hE1.trans hE2⟩
          case measure => simp [intOf]; omega
    · obtain rfl : k = 25 := by omega
      have hR2 := Lib.hid (show betwB xs ys = none by rw [← hR.out, hF.out]; rfl)
      go_wp2
      go_ret2
      unfold betwK
      rw [hR2.out]
      exact ⟨none, 0, rfl, ⟨rfl, .inl ⟨rfl, rfl⟩⟩, hE⟩
end Go.Proofs.Ytijlaknfagpglaa
