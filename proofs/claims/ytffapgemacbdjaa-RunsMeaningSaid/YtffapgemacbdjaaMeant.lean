/- Layer 5: the walk of meant (of RunsMeaning). No condition but that the set lies in memory. -/
import Derived.Test.YtffapgemacbdjaaRhb
import Derived.Test.YtffapgemacbdjaaRmean
import Derived.Deep.WholeRow
namespace Go.Proofs.Ytffapgemacbdjaa
open Go.RowKit Go.Proofs Go.Shelf
set_option linter.unusedVariables false
attribute [local go_sem] Oper.semAt_some
/-- The cells of 256 booleans. -/
def cellsB (f : Nat → Bool) : Array Value := ((List.range 256).map (fun i => Value.bool (f i))).toArray
theorem cellsB_size (f : Nat → Bool) : (cellsB f).size = 256 := by simp [cellsB]
theorem cellsB_at (f : Nat → Bool) {i : Nat} (h : i < 256) : (cellsB f)[i]? = some (.bool (f i)) := by
  simp [cellsB, h]
theorem cellsB_ext {f g : Nat → Bool} (h : ∀ i, i < 256 → f i = g i) : cellsB f = cellsB g := by
  unfold cellsB
  congr 1
  apply List.map_congr_left
  intro i hi
  rw [h i (List.mem_range.1 hi)]
theorem cellsB_set (f : Nat → Bool) (n : Nat) (b : Bool) : (cellsB f).setIfInBounds n (.bool b) = cellsB (fun i => if i = n then b else f i) := by
  apply Array.ext_getElem?
  intro i
  by_cases hi : i < 256
  · rw [cellsB_at _ hi, Array.getElem?_setIfInBounds]
    by_cases h : n = i
    · subst h
      simp [cellsB_size, hi]
    · rw [if_neg h, cellsB_at _ hi, if_neg (fun e => h e.symm)]
  · rw [Array.getElem?_eq_none (by simp [cellsB_size]; omega), Array.getElem?_eq_none (by simp [cellsB_size]; omega)]
theorem cellsB_one (f : Nat → Bool) : (cellsB f).all (·.oneCell') = true := by
  unfold cellsB
  simp [Value.oneCell']
def bitsL (L : List Rn) : Nat → Bool := fun i => hasB L i
theorem bits_in {L : List Rn} {W : World} {g : Nat} {t : TypeId} {fr : Nat × Nat} (h : W.heap[g]? = some (.cells (cellsB (bitsL L)) t fr)) {k : Nat} (hk : k < 256) : W.cell? ⟨g, k, none⟩ = some (.bool (hasB L k)) := by
  rw [cell_of_row W g k _ _ _ h, cellsB_at _ hk]
  rfl
set_option maxRecDepth 100000 in
set_option maxHeartbeats 2000000 in
theorem meant_any {B p c : Nat} {A : Option Addr} {L : List Rn} {w : World} (hS : SetAtb B p A c w L) (hi : InB 0 256 L) :
    Calls Try.prog 18 #[.pointer (some ⟨p, 0, none⟩), .agg (cellsB (bitsL L))] w fun e w' => e = .returned (.bool true) ∧ Ext w w' := by
  have hl : L.length ≤ 256 := len_inb hS.wf hi
  have hnl : (numC (hasB L) 0 256 : Int) = cnt L := numC_cnt hS.wf hi
  have hne : numC (endB L) 0 256 = L.length := ends_all hS.wf hi
  have hlc : L.foldl withZ 0 = cnt L := len_cnt hS.wf hi (by decide)
  have HNL := Lib.hid hnl
  have HNE := Lib.hid hne
  have HLC := Lib.hid hlc
  clear hnl hne hlc
  go_enter Try.func18, Try.ntmps18
  go_wp2
  refine wp_cut (fun W' => Ext w W' ∧ W'.heap[w.heap.size]? = some (.cells (cellsB (bitsL L)) 36 (0, 0))) ⟨ext_alloc _ _, heap_alloc_new _ _⟩ ?_
  rintro w1 ⟨hE1, hb⟩
  go_loopw [5, 6, 7] (fun mv ev nv wr => ∃ k m e : Nat, k ≤ 256 ∧ nv = .int .i64 k ∧ mv = .int .i64 m ∧ ev = .int .i64 e ∧ Hid (m = numC (hasB L) 0 k) ∧ Hid (e = numC (endB L) 0 k) ∧ m ≤ k ∧ e ≤ k ∧ Ext w1 wr) (fun _ _ nv _ => 256 - (intOf nv).toNat)
  case atStart => exact ⟨0, 0, 0, Nat.zero_le _, rfl, rfl, rfl, Lib.hid rfl, Lib.hid rfl, Nat.le_refl _, Nat.le_refl _, Below.refl _ _⟩
  case round =>
    obtain ⟨k, m, e, hk, rfl, rfl, rfl, HM, HE, hm, he, hE⟩ := hrel
    by_cases hlt : k < 256
    · have hbr := hE.blk hb
      obtain ⟨b, hbb⟩ : ∃ b, hasB L k = b := ⟨_, rfl⟩
      have hwr : IntKind.u8.wrap (k : Int) = (k : Int) := by rw [IntKind.wrap_u8]; omega
      have q0 : ∀ W', Ext wr W' → W'.cell? ⟨w.heap.size, k, none⟩ = some (.bool b) := fun W' h => by rw [bits_in (h.blk hbr) hlt, hbb]
      have HB := Lib.hid hbb
      clear hbb
      go_wp2
      refine wp_region_rg Ext rel_ext (fun _ => True) [0, 1, 2, 3, 4, 5, 6, 7] (fun i => match i with | 3 => some fun _ z _ => z = .bool b | _ => none) (fun _ => none) (fun _ => false) (by kernel_rfl) (by kernel_rfl) (fun _ _ _ _ => trivial) trivial (fun W N hW _ hN => ?_)
      have hEW := hW
      repeat (first | (apply wpR_one; (case ho => (simp only [List.getElem?_toArray, List.getElem?_cons_succ, List.getElem?_cons_zero]; try exact rfl)); (case hw => rfl); (case hl => rfl); (case hsp => rfl); (case he => rfl); (case hv => (intro w' hw'; (try (have hw2 := Ext.trans hEW hw')); (try (have hw3 := Exc.trans hEW hw')); (try (have hw4 := Exk.trans hEW hw')); (try (have hw5 := Mrk.trans hEW hw')); go_simp; exact rfl)); (case hw0 => (first | exact Below.refl _ _ | exact Exc.of_ext (Below.refl _ _) | exact Exk.of_ext (Below.refl _ _) | exact Mrk.of_ext (Below.refl _ _))); simp only [Act.put, List.setIfInBounds_toArray, List.set_cons_succ, List.set_cons_zero]) | (apply wpR_early; (case ho => (simp only [List.getElem?_toArray, List.getElem?_cons_succ, List.getElem?_cons_zero]; try exact rfl)); (case hw => rfl); (case hl => rfl); (case hsp => rfl); (case he => rfl); (case hv => (intro w' hw'; (try have hw2 := Ext.trans hEW hw'); go_simp; exact rfl)); simp only [Act.put, List.setIfInBounds_toArray, List.set_cons_succ, List.set_cons_zero]) | (apply wpR_pass; (case ho => (simp only [List.getElem?_toArray, List.getElem?_cons_succ, List.getElem?_cons_zero]; try exact rfl)); (case hw => rfl); (case hl => rfl); simp only [Act.put, List.setIfInBounds_toArray, List.set_cons_succ, List.set_cons_zero]))
      refine wpR_new (by ((simp only [List.getElem?_toArray, List.getElem?_cons_succ, List.getElem?_cons_zero]; try exact rfl))) _ rfl rfl rfl (fun V v => Lasts.pure) (fun V V' h => rfl) (fun w' hw' hK => ?_) (fun z hz => ?_)
      · unfold opAt; go_simp; refine upAt_enter ?_
        refine (has_anyb (x := (k : Int)) (hS.ext ((hE1.trans hE).trans (hEW.trans hw'))) (by omega)).mono ?_
        rintro e w2 ⟨rfl, hE2⟩
        exact ⟨_, rfl, hE2, by rw [HB.out]⟩
      obtain ⟨_, _, _, rfl⟩ := hz
      simp only [Act.put, List.setIfInBounds_toArray, List.set_cons_succ, List.set_cons_zero]
      repeat (first | (apply wpR_one; (case ho => (simp only [List.getElem?_toArray, List.getElem?_cons_succ, List.getElem?_cons_zero]; try exact rfl)); (case hw => rfl); (case hl => rfl); (case hsp => rfl); (case he => rfl); (case hv => (intro w' hw'; (try (have hw2 := Ext.trans hEW hw')); (try (have hw3 := Exc.trans hEW hw')); (try (have hw4 := Exk.trans hEW hw')); (try (have hw5 := Mrk.trans hEW hw')); go_simp; exact rfl)); (case hw0 => (first | exact Below.refl _ _ | exact Exc.of_ext (Below.refl _ _) | exact Exk.of_ext (Below.refl _ _) | exact Mrk.of_ext (Below.refl _ _))); simp only [Act.put, List.setIfInBounds_toArray, List.set_cons_succ, List.set_cons_zero]) | (apply wpR_early; (case ho => (simp only [List.getElem?_toArray, List.getElem?_cons_succ, List.getElem?_cons_zero]; try exact rfl)); (case hw => rfl); (case hl => rfl); (case hsp => rfl); (case he => rfl); (case hv => (intro w' hw'; (try have hw2 := Ext.trans hEW hw'); go_simp; exact rfl)); simp only [Act.put, List.setIfInBounds_toArray, List.set_cons_succ, List.set_cons_zero]) | (apply wpR_pass; (case ho => (simp only [List.getElem?_toArray, List.getElem?_cons_succ, List.getElem?_cons_zero]; try exact rfl)); (case hw => rfl); (case hl => rfl); simp only [Act.put, List.setIfInBounds_toArray, List.set_cons_succ, List.set_cons_zero]))
      apply wpR_nil
      apply hN
      intro w' hE' hK _
      have hE2 := (hE.trans hEW).trans hE'
      have hb2 := hE2.blk hb
      have q1 := bits_in hb2 hlt
      rw [HB.out] at q1
      have hnum : ∀ f : Int → Bool, numC f 0 (k + 1) = numC f 0 k + (if f k then 1 else 0) := fun f => by simp [numC]
      have hM2 := hnum (hasB L)
      rw [← HM.out, HB.out] at hM2
      have hE3 := hnum (endB L)
      rw [← HE.out] at hE3
      clear hK hN q0 hW hEW hE' HM HE hE hbr hnum
      cases b with
      | false =>
        have he0 : endB L k = false := by unfold endB; rw [HB.out]; rfl
        rw [he0] at hE3
        have HM2 : Hid (m = numC (hasB L) 0 (k + 1)) := Lib.hid (by rw [hM2]; simp)
        have HE2 : Hid (e = numC (endB L) 0 (k + 1)) := Lib.hid (by rw [hE3]; simp)
        clear hM2 hE3 he0 hwr
        go_wp2
        go_roundw
        case rel => exact ⟨k + 1, m, e, by omega, by go_num, rfl, rfl, HM2, HE2, by omega, by omega, hE2⟩
        case measure => simp [intOf]; omega
      | true =>
        have HM2 : Hid (m + 1 = numC (hasB L) 0 (k + 1)) := Lib.hid (by rw [hM2]; simp)
        clear hM2 hwr
        by_cases h255 : k = 255
        · subst h255
          have he0 : endB L ((255 : Nat) : Int) = true := by
            unfold endB
            rw [HB.out]
            have : hasB L (((255 : Nat) : Int) + 1) = false := by
              rw [Bool.eq_false_iff]
              intro hc
              have := inb_mem hi ((hasB_iff _ _).1 hc)
              omega
            rw [this]; rfl
          rw [he0] at hE3
          have HE2 : Hid (e + 1 = numC (endB L) 0 (255 + 1)) := Lib.hid (by rw [hE3]; simp)
          clear hE3 he0
          go_wp2
          go_roundw
          case rel => exact ⟨256, m + 1, e + 1, by omega, by go_num, by go_num, by go_num, HM2, HE2, by omega, by omega, hE2⟩
          case measure => simp [intOf]
        · have hk1 : k + 1 < 256 := by omega
          have h255' : ¬ (k : Int) = 255 := by omega
          have q2 := bits_in hb2 hk1
          obtain ⟨b2, hb2b⟩ : ∃ b2, hasB L ((k + 1 : Nat) : Int) = b2 := ⟨_, rfl⟩
          rw [hb2b] at q2
          have he0 : endB L k = !b2 := by
            unfold endB
            rw [HB.out, ← hb2b]
            simp
          rw [he0] at hE3
          have HB2 := Lib.hid hb2b
          clear hb2b he0 hb2
          cases b2 with
          | false =>
            have HE2 : Hid (e + 1 = numC (endB L) 0 (k + 1)) := Lib.hid (by rw [hE3]; simp)
            clear hE3
            go_wp2
            go_roundw
            case rel => exact ⟨k + 1, m + 1, e + 1, by omega, by go_num, by go_num, by go_num, HM2, HE2, by omega, by omega, hE2⟩
            case measure => simp [intOf]; omega
          | true =>
            have HE2 : Hid (e = numC (endB L) 0 (k + 1)) := Lib.hid (by rw [hE3]; simp)
            clear hE3
            go_wp2
            go_roundw
            case rel => exact ⟨k + 1, m + 1, e, by omega, by go_num, by go_num, rfl, HM2, HE2, by omega, by omega, hE2⟩
            case measure => simp [intOf]; omega
    · obtain rfl : k = 256 := by omega
      have hEe := hE1.trans hE
      have hbr := hE.blk hb
      have hel : e = L.length := by rw [HE.out, HNE.out]
      have hml : (m : Int) = L.foldl withZ 0 := by rw [HM.out, HNL.out, HLC.out]
      subst hel
      have HML := Lib.hid hml
      clear HM HE HNE HNL HLC hml
      go_wp2_with fail
      refine (runs_anyb (hS.ext hEe) (by omega)).mono ?_
      rintro e w2 ⟨A', c', rfl, hR, hE2⟩
      go_wp2_with fail
      refine (len_anyb (hS.ext (hEe.trans hE2)) (by omega)).mono ?_
      rintro e w3 ⟨he3, hE3⟩
      rw [← HML.out] at he3
      subst he3
      have hEe3 := hEe.trans (hE2.trans hE3)
      have hb3 := (hE2.trans hE3).blk hbr
      have hR3 := hR.ext hE3
      clear hE hEe hbr hE2 hE3 hR hE1 hb
      go_wp2
      have hS3 := hS.ext hEe3
      have hWF := hS.wf
      have HI := Lib.hid hi
      have hbd := hS.bd
      go_loopw [9, 10] (fun lv iv wr => ∃ (i : Nat) (z : Int), i ≤ L.length ∧ iv = .int .i64 i ∧ lv = .int .i64 z ∧ -2 ≤ z ∧ z ≤ 255 ∧ Hid (∀ r, L[i]? = some r → z + 1 < r.lo) ∧ Ext w3 wr) (fun _ iv _ => L.length - (intOf iv).toNat)
      case atStart => exact ⟨0, -2, Nat.zero_le _, rfl, rfl, by decide, by decide, Lib.hid (fun r hr => by have := (hi r (List.mem_of_getElem? hr)).1; omega), Below.refl _ _⟩
      case round =>
        obtain ⟨i, z, hil, rfl, rfl, hz1, hz2, HZ, hE⟩ := hrel
        by_cases hlt2 : i < L.length
        · obtain ⟨x, hx⟩ : ∃ x, L[i]? = some x := ⟨_, List.getElem?_eq_getElem hlt2⟩
          have hxm := List.mem_of_getElem? hx
          have hx1 := HZ.out x hx
          have hx2 := hWF.each x hxm
          have hx3 := HI.out x hxm
          have hzn : Hid (∀ r, L[i + 1]? = some r → x.hi + 1 < r.lo) := Lib.hid (fun r hr => by
            obtain ⟨a1, a2⟩ := List.getElem?_eq_some_iff.1 hx
            obtain ⟨b1, b2⟩ := List.getElem?_eq_some_iff.1 hr
            have hsp := hWF
            rw [← List.take_append_drop (i + 1) L] at hsp
            refine (wf_split hsp).2.2 x ?_ r ?_
            · rw [List.mem_take_iff_getElem]
              exact ⟨i, by omega, a2⟩
            · rw [List.mem_drop_iff_getElem]
              exact ⟨0, by omega, by simpa using b2⟩)
          have hin : Hid (∀ j : Int, x.lo ≤ j → j ≤ x.hi → hasB L j = true) := Lib.hid (fun j h1 h2 => (hasB_iff _ _).2 ⟨x, hxm, h1, h2⟩)
          obtain ⟨g, rfl, hlc2, hBg, _, _⟩ := (hR3.ext hE).at hx
          have x0 : ∀ W', Ext wr W' → W'.cell? ⟨g, i * 2, none⟩ = some (.int .u8 x.lo) := fun W' h => by
            obtain ⟨g2, e, _, _, h1, _⟩ := (hR3.ext (hE.trans h)).at hx
            injection e with e; injection e with e; subst e; exact h1
          have x1 : ∀ W', Ext wr W' → W'.cell? ⟨g, i * 2 + 1, none⟩ = some (.int .u8 x.hi) := fun W' h => by
            obtain ⟨g2, e, _, _, _, h1⟩ := (hR3.ext (hE.trans h)).at hx
            injection e with e; injection e with e; subst e; exact h1
          have hic : i < c' := by omega
          clear HZ hx
          obtain ⟨xl, xh⟩ := x
          simp only at hx1 hx2 hx3 hzn hin x0 x1
          obtain ⟨nl, rfl⟩ : ∃ n : Nat, xl = n := ⟨xl.toNat, by omega⟩
          obtain ⟨nh, rfl⟩ : ∃ n : Nat, xh = n := ⟨xh.toNat, by omega⟩
          have hwl : IntKind.i64.wrap (nl : Int) = (nl : Int) := by rw [IntKind.wrap_i64]; omega
          have hwh : IntKind.i64.wrap (nh : Int) = (nh : Int) := by rw [IntKind.wrap_i64]; omega
          have hnz : ¬ (nl : Int) ≤ z + 1 := by omega
          have hnlh : ¬ (nh : Int) < (nl : Int) := by omega
          have hnlh2 : ¬ nh < nl := by omega
          have hwz : IntKind.i64.wrap (z + 1) = z + 1 := by rw [IntKind.wrap_i64]; omega
          have hdz : decide ((nl : Int) ≤ z + 1) = false := decide_eq_false hnz
          have hdh : decide ((nh : Int) < (nl : Int)) = false := decide_eq_false hnlh
          have hnlh3 : nl ≤ nh := by omega
          have hnh : nh < 256 := by omega
          go_wp2
          refine wp_region_rg Ext rel_ext (fun _ => True) [0, 1, 2, 3, 4, 5, 6, 7, 8, 9, 10, 11, 12, 13, 14, 15, 16, 17, 18, 19, 20, 21] (fun _ => none) (fun _ => none) (fun _ => false) (by kernel_rfl) (by kernel_rfl) (fun _ _ _ _ => trivial) trivial (fun W N hW _ hN => ?_)
          have hEW := hW
          repeat (first | (apply wpR_one; (case ho => (simp only [List.getElem?_toArray, List.getElem?_cons_succ, List.getElem?_cons_zero]; try exact rfl)); (case hw => rfl); (case hl => rfl); (case hsp => rfl); (case he => rfl); (case hv => (intro w' hw'; (try (have hw2 := Ext.trans hEW hw')); (try (have hw3 := Exc.trans hEW hw')); (try (have hw4 := Exk.trans hEW hw')); (try (have hw5 := Mrk.trans hEW hw')); go_simp; exact rfl)); (case hw0 => (first | exact Below.refl _ _ | exact Exc.of_ext (Below.refl _ _) | exact Exk.of_ext (Below.refl _ _) | exact Mrk.of_ext (Below.refl _ _))); simp only [Act.put, List.setIfInBounds_toArray, List.set_cons_succ, List.set_cons_zero]) | (apply wpR_early; (case ho => (simp only [List.getElem?_toArray, List.getElem?_cons_succ, List.getElem?_cons_zero]; try exact rfl)); (case hw => rfl); (case hl => rfl); (case hsp => rfl); (case he => rfl); (case hv => (intro w' hw'; (try have hw2 := Ext.trans hEW hw'); go_simp; exact rfl)); simp only [Act.put, List.setIfInBounds_toArray, List.set_cons_succ, List.set_cons_zero]) | (apply wpR_pass; (case ho => (simp only [List.getElem?_toArray, List.getElem?_cons_succ, List.getElem?_cons_zero]; try exact rfl)); (case hw => rfl); (case hl => rfl); simp only [Act.put, List.setIfInBounds_toArray, List.set_cons_succ, List.set_cons_zero]))
          apply wpR_nil
          apply hN
          intro w' hE' hK _
          have hE2 := (hE.trans hEW).trans hE'
          have y0 := x0 w' (hEW.trans hE')
          have y1 : ∀ W', Ext w' W' → W'.cell? ⟨g, i * 2 + 1, none⟩ = some (.int .u8 nh) := fun W' h => x1 W' ((hEW.trans hE').trans h)
          have y1' := y1 w' (Below.refl _ _)
          have hb4 := hE2.blk hb3
          clear hK hN x0 x1 hW hEW hE' hE
          go_wp2
          go_loopw [11] (fun nv wx => ∃ j : Nat, nl ≤ j ∧ j ≤ nh + 1 ∧ nv = .int .i64 j ∧ Ext w' wx) (fun nv _ => 257 - (intOf nv).toNat)
          case atStart => exact ⟨nl, Nat.le_refl _, by omega, rfl, Below.refl _ _⟩
          case round =>
            obtain ⟨j, hj1, hj2, rfl, hEx⟩ := hrel
            have y2 := y1 _ hEx
            by_cases hjn : j ≤ nh
            · have hj3 := hin.out j (by omega) (by omega)
              have y3 := bits_in (hEx.blk hb4) (show j < 256 by omega)
              rw [hj3] at y3
              have hjn2 : (j : Int) ≤ (nh : Int) := by omega
              go_wp2
              go_roundw
              case rel => exact ⟨j + 1, by omega, by omega, by go_num, hEx⟩
              case measure => simp [intOf]; omega
            · have hjn2 : ¬ (j : Int) ≤ (nh : Int) := by omega
              go_wp2
              go_roundw
              case rel => exact ⟨i + 1, nh, by omega, by go_num, rfl, by omega, by omega, hzn, hE2.trans hEx⟩
              case measure => simp [intOf]; omega
        · obtain rfl : i = L.length := by omega
          go_wp2_with fail
          refine (of_anyb (hR3.ext hE) (by omega) hbd).mono ?_
          rintro e w4 ⟨p2, A2, c2, rfl, hp2, hT, hE4⟩
          rw [norm_self hWF] at hT
          have hS4 := hS3.ext (hE.trans hE4)
          have hEf := hEe3.trans (hE.trans hE4)
          go_wp2_with fail
          refine (same_anyb hT hS4 (by omega) (by omega)).mono ?_
          rintro e w5 ⟨rfl, hE5⟩
          rw [decide_eq_true rfl]
          go_wp2_with fail
          refine (same_anyb (hS4.ext hE5) (hT.ext hE5) (by omega) (by omega)).mono ?_
          rintro e w6 ⟨rfl, hE6⟩
          rw [decide_eq_true rfl]
          go_wp2
          go_ret
          exact ⟨rfl, hEf.trans (hE5.trans hE6)⟩
end Go.Proofs.Ytffapgemacbdjaa
