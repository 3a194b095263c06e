/- Layer 3: contracts of the law's functions list, like, kept. No condition but that what comes in lies in memory. -/
import Derived.Test.YtbjfgnkjmfcokaaTeq
import Derived.Test.YtbjfgnkjmfcokaaMildg
import Derived.Test.YtbjfgnkjmfcokaaRg
namespace Go.Proofs.Ytbjfgnkjmfcokaa
open Go.RowKit Go.Proofs
set_option linter.unusedVariables false
theorem infoVal : (Try.prog.info? 56).map (fun i => (i.zero, i.size, i.bytes)) = some (some (.agg #[.int .i64 0, .bool false, .int .i64 0, .float .f64 0, .complex .f64 0 0, str []]), 6, 64) := by kernel_rfl
/-- A tuple with its two marks. -/
def roomed (l : List Vl) : List Vl := l ++ [markV l.length, markV (l.length + 1)]
theorem length_roomed (l : List Vl) : (roomed l).length = l.length + 2 := by simp [roomed]
/-- 'full' as far as k, zeros behind. -/
def fillV (full : List Vl) (k : Nat) : List Vl := full.take k ++ List.replicate (full.length - k) Vl.zero
theorem length_fillV (full : List Vl) {k : Nat} (h : k ≤ full.length) : (fillV full k).length = full.length := by simp [fillV]; omega
theorem fillV_zero (full : List Vl) : fillV full 0 = List.replicate full.length Vl.zero := by simp [fillV]
theorem fillV_all (full : List Vl) : fillV full full.length = full := by simp [fillV]
theorem fillV_set {full : List Vl} {k : Nat} {v : Vl} (h : full[k]? = some v) : (fillV full k).set k v = fillV full (k + 1) := by
  obtain ⟨hk, rfl⟩ := List.getElem?_eq_some_iff.1 h
  unfold fillV
  have e : full.length - k = (full.length - (k + 1)) + 1 := by omega
  rw [e, List.replicate_succ, List.set_append_right _ _ (by simp; omega), List.take_succ_eq_append_getElem hk]
  rw [show k - (full.take k).length = 0 by simp; omega, List.set_cons_zero, List.append_assoc]
  rfl
theorem roomed_at {l : List Vl} {k : Nat} {v : Vl} (h : l[k]? = some v) : (roomed l)[k]? = some v := by
  unfold roomed
  rw [List.getElem?_append_left (List.getElem?_eq_some_iff.1 h).1, h]
theorem roomed_mark {l : List Vl} {k : Nat} (h1 : l.length ≤ k) (h2 : k < l.length + 2) : (roomed l)[k]? = some (markV k) := by
  unfold roomed
  rw [List.getElem?_append_right h1]
  by_cases h : k = l.length
  · subst h; simp
  · obtain rfl : k = l.length + 1 := by omega
    simp
set_option maxHeartbeats 400000 in
set_option maxRecDepth 20000 in
theorem list_any {A : Option Addr} {c : Nat} {l : List Vl} {w : World} (h : DL w A c l) :
    Calls Try.prog 15 #[.slice A l.length c] w fun e w' => ∃ g, e = .returned (.slice (some ⟨g, 0, none⟩) l.length (l.length + 2)) ∧ w.heap.size ≤ g ∧ VBlk w' g (roomed l) ∧ Ext w w' := by
  obtain ⟨i0, hi, hz0, hz1, hz2⟩ := info_parts infoVal
  have hl := h.len
  go_enter Try.func15, Try.ntmps15
  go_wp2_with (at_make; refine wpList_make_any _ rfl _ _ 24 rfl 56 i0 _ 6 Try.underlying24 hi hz0 hz1 _ _ _ _ (l.length + 2) (l.length + 2) rfl rfl (by omega) (by omega) (Nat.le_refl _) (by rw [hz2]; omega) (by omega) ?_; intro w1 hb1 hgrow1)
  have hm := VBlk.made hb1
  have hE1 := ext_make hgrow1
  clear hb1 hgrow1
  rw [← length_roomed, ← fillV_zero] at hm
  go_loopw [4] (fun i wr => ∃ k : Nat, k ≤ l.length + 2 ∧ i = .int .i64 k ∧ VBlk wr w.heap.size (fillV (roomed l) k) ∧ Ext w wr) (fun i _ => l.length + 2 - (intOf i).toNat)
  case atStart => exact ⟨0, Nat.zero_le _, rfl, hm, hE1⟩
  case round =>
    obtain ⟨k, hk, rfl, hblk, hE⟩ := hrel
    by_cases hlt : k < l.length + 2
    · have hkl : k < (fillV (roomed l) k).length := by rw [length_fillV _ (by rw [length_roomed]; omega), length_roomed]; exact hlt
      by_cases hb : k < l.length
      · obtain ⟨v, hv⟩ : ∃ v, l[k]? = some v := ⟨_, List.getElem?_eq_getElem hb⟩
        obtain ⟨b, off, rfl, hc⟩ := (h.ext hE).dAt hv
        obtain ⟨c0, c1, c2, c3, c4, c5, c6⟩ := hc wr (Below.refl _ _)
        have HV := Lib.hid hv
        clear hc hv
        go_wp2_with (first | (go_at_call 34; refine (value_any (v := v)).mono ?_; rintro e w2 ⟨rfl, hE2⟩) | (refine wpList_store_val rfl (.tmp 26) (.tmp 25) rfl w.heap.size k _ v rfl rfl (hblk.ext hE2) hkl ?_; intro w3 hb3 hg3))
        rw [fillV_set (roomed_at HV.out)] at hb3
        have hE3 := ext_only (hE.trans hE2) hg3 (Nat.le_refl _)
        go_roundw
        case rel => exact ⟨k + 1, by omega, by go_num, hb3, hE3⟩
        case measure => simp [intOf]; omega
      · have hkm : k ≤ 4611686018427387904 := by omega
        go_wp2_with (first | (go_at_call 39; refine (mark_any hkm).mono ?_; rintro e w2 ⟨rfl, hE2⟩) | (refine wpList_store_val rfl (.tmp 31) (.tmp 30) rfl w.heap.size k _ (markV k) rfl rfl (hblk.ext hE2) hkl ?_; intro w3 hb3 hg3))
        rw [fillV_set (roomed_mark (by omega) hlt)] at hb3
        have hE3 := ext_only (hE.trans hE2) hg3 (Nat.le_refl _)
        go_roundw
        case rel => exact ⟨k + 1, by omega, by go_num, hb3, hE3⟩
        case measure => simp [intOf]; omega
    · obtain rfl : k = l.length + 2 := by omega
      rw [← length_roomed, fillV_all] at hblk
      go_wp2
      go_ret
      exact ⟨_, rfl, Nat.le_refl _, hblk, hE⟩
theorem VBlk.list {w : World} {g : Nat} {l : List Vl} (h : VBlk w g (roomed l)) (hl : l.length + 2 ≤ 2199023255552) (hok : ∀ v ∈ l, v.Ok) : PL w (some ⟨g, 0, none⟩) (l.length + 2) l := by
  have := h.pl (m := l) (by simp [roomed]) (by rw [length_roomed]; exact hl) hok
  rwa [length_roomed] at this
theorem takes_succ {α : Type} {x y : List α} {k : Nat} {u : α} (h : x.take k = y.take k) (hx : x[k]? = some u) (hy : y[k]? = some u) : x.take (k + 1) = y.take (k + 1) := by
  obtain ⟨h1, e1⟩ := List.getElem?_eq_some_iff.1 hx
  obtain ⟨h2, e2⟩ := List.getElem?_eq_some_iff.1 hy
  rw [List.take_succ_eq_append_getElem h1, List.take_succ_eq_append_getElem h2, h, e1, e2]
set_option maxHeartbeats 400000 in
set_option maxRecDepth 20000 in
theorem like_any {A B : Option Addr} {c d : Nat} {x y : List Vl} {w : World} (hx : PL w A c x) (hy : DL w B d y) :
    Calls Try.prog 28 #[.slice A x.length c, .slice B y.length d] w fun e w' => e = .returned (.bool (decide (x = y))) ∧ Ext w w' := by
  have hlx := hx.len
  have hly := hy.len
  by_cases hll : x.length = y.length
  · have HLL := Lib.hid hll
    have h1 : (x.length : Int) = (y.length : Int) := by omega
    have hle : y.length ≤ x.length := by omega
    clear hll
    go_enter Try.func28, Try.ntmps28
    go_wp2
    clear h1
    go_loopw [5] (fun i wr => ∃ k : Nat, k ≤ x.length ∧ i = .int .i64 k ∧ Hid (x.take k = y.take k) ∧ Ext w wr) (fun i _ => x.length - (intOf i).toNat)
    case atStart => exact ⟨0, Nat.zero_le _, rfl, Lib.hid rfl, Below.refl _ _⟩
    case round =>
      obtain ⟨k, hk, rfl, HT, hE⟩ := hrel
      by_cases hlt : k < x.length
      · have hlt2 : k < y.length := by have := HLL.out; omega
        obtain ⟨u, hu⟩ : ∃ u, x[k]? = some u := ⟨_, List.getElem?_eq_getElem hlt⟩
        obtain ⟨v, hv⟩ : ∃ v, y[k]? = some v := ⟨_, List.getElem?_eq_getElem hlt2⟩
        obtain ⟨b, o, rfl, hcx⟩ := (hx.ext hE).pAt hu
        obtain ⟨b', o', rfl, hcy⟩ := (hy.ext hE).dAt hv
        have x0 := fun W (h : Ext wr W) => (hcx W h).1
        have x1 := fun W (h : Ext wr W) => (hcx W h).2.1
        have x2 := fun W (h : Ext wr W) => (hcx W h).2.2.1
        have x3 := fun W (h : Ext wr W) => (hcx W h).2.2.2.1
        have x4 := fun W (h : Ext wr W) => (hcx W h).2.2.2.2.1
        have x5 := fun W (h : Ext wr W) => (hcx W h).2.2.2.2.2
        have y0 := fun W (h : Ext wr W) => (hcy W h).1
        have y1 := fun W (h : Ext wr W) => (hcy W h).2.1
        have y2 := fun W (h : Ext wr W) => (hcy W h).2.2.1
        have y3 := fun W (h : Ext wr W) => (hcy W h).2.2.2.1
        have y4 := fun W (h : Ext wr W) => (hcy W h).2.2.2.2.1
        have y5 := fun W (h : Ext wr W) => (hcy W h).2.2.2.2.2.1
        have y6 := fun W (h : Ext wr W) => (hcy W h).2.2.2.2.2.2
        have hq := neqV u v
        have HU := Lib.hid hu
        have HV := Lib.hid hv
        clear hu hv hcx hcy
        go_wp2
        refine wp_region_rg Ext rel_ext (fun _ => True) [0, 1, 2, 3, 4, 5, 6, 7, 8, 9] (fun i => match i with
          | 4 => some fun _ z _ => z = u.d
          | _ => none) (fun _ => none) (fun _ => false) (by kernel_rfl) (by kernel_rfl) (fun _ _ _ _ => trivial) trivial (fun W N hW _ hN => ?_)
        have hEW := hW
        repeat (first | (apply wpR_one; (case ho => (simp only [List.getElem?_toArray, List.getElem?_cons_succ, List.getElem?_cons_zero]; try exact rfl)); (case hw => rfl); (case hl => rfl); (case hsp => rfl); (case he => rfl); (case hv => (intro w' hw'; (try (have hw2 := Ext.trans hEW hw')); (try (have hw3 := Exc.trans hEW hw')); (try (have hw4 := Exk.trans hEW hw')); (try (have hw5 := Mrk.trans hEW hw')); go_simp; exact rfl)); (case hw0 => (first | exact Below.refl _ _ | exact Exc.of_ext (Below.refl _ _) | exact Exk.of_ext (Below.refl _ _) | exact Mrk.of_ext (Below.refl _ _))); simp only [Act.put, List.setIfInBounds_toArray, List.set_cons_succ, List.set_cons_zero]) | (apply wpR_early; (case ho => (simp only [List.getElem?_toArray, List.getElem?_cons_succ, List.getElem?_cons_zero]; try exact rfl)); (case hw => rfl); (case hl => rfl); (case hsp => rfl); (case he => rfl); (case hv => (intro w' hw'; (try have hw2 := Ext.trans hEW hw'); go_simp; exact rfl)); simp only [Act.put, List.setIfInBounds_toArray, List.set_cons_succ, List.set_cons_zero]) | (apply wpR_pass; (case ho => (simp only [List.getElem?_toArray, List.getElem?_cons_succ, List.getElem?_cons_zero]; try exact rfl)); (case hw => rfl); (case hl => rfl); simp only [Act.put, List.setIfInBounds_toArray, List.set_cons_succ, List.set_cons_zero]))
        refine wpR_new (by ((simp only [List.getElem?_toArray, List.getElem?_cons_succ, List.getElem?_cons_zero]; try exact rfl))) _ rfl rfl rfl (fun V v => Lasts.pure) (fun V V' h => rfl) (fun w' hw' hK => ?_) (fun z hz => ?_)
        · unfold opAt; go_simp; refine upAt_enter ?_
          refine (bits_any (v := u)).mono ?_
          rintro e w2 ⟨rfl, hE2⟩
          exact ⟨_, rfl, hE2, rfl⟩
        obtain ⟨_, _, _, rfl⟩ := hz
        simp only [Act.put, List.setIfInBounds_toArray, List.set_cons_succ, List.set_cons_zero]
        repeat (first | (apply wpR_one; (case ho => (simp only [List.getElem?_toArray, List.getElem?_cons_succ, List.getElem?_cons_zero]; try exact rfl)); (case hw => rfl); (case hl => rfl); (case hsp => rfl); (case he => rfl); (case hv => (intro w' hw'; (try (have hw2 := Ext.trans hEW hw')); (try (have hw3 := Exc.trans hEW hw')); (try (have hw4 := Exk.trans hEW hw')); (try (have hw5 := Mrk.trans hEW hw')); go_simp; exact rfl)); (case hw0 => (first | exact Below.refl _ _ | exact Exc.of_ext (Below.refl _ _) | exact Exk.of_ext (Below.refl _ _) | exact Mrk.of_ext (Below.refl _ _))); simp only [Act.put, List.setIfInBounds_toArray, List.set_cons_succ, List.set_cons_zero]) | (apply wpR_early; (case ho => (simp only [List.getElem?_toArray, List.getElem?_cons_succ, List.getElem?_cons_zero]; try exact rfl)); (case hw => rfl); (case hl => rfl); (case hsp => rfl); (case he => rfl); (case hv => (intro w' hw'; (try have hw2 := Ext.trans hEW hw'); go_simp; exact rfl)); simp only [Act.put, List.setIfInBounds_toArray, List.set_cons_succ, List.set_cons_zero]) | (apply wpR_pass; (case ho => (simp only [List.getElem?_toArray, List.getElem?_cons_succ, List.getElem?_cons_zero]; try exact rfl)); (case hw => rfl); (case hl => rfl); simp only [Act.put, List.setIfInBounds_toArray, List.set_cons_succ, List.set_cons_zero]))
        apply wpR_nil
        apply hN
        intro w' hE' hK _
        clear hK hN x0 x1 x2 x3 x4 x5 y0 y1 y2 y3 y4 y5 y6
        have hE2 := (hE.trans hEW).trans hE'
        by_cases huv : u = v
        · subst huv
          have HT2 := Lib.hid (takes_succ HT.out HU.out HV.out)
          rw [decide_eq_true rfl]
          go_wp2
          go_roundw
          case rel => exact ⟨k + 1, by omega, by go_num, HT2, hE2⟩
          case measure => simp [intOf]; omega
        · have HN := Lib.hid huv
          rw [decide_eq_false huv]
          clear huv
          go_wp2
          go_ret
          refine ⟨ret_bool ?_, hE2⟩
          symm
          simp only [decide_eq_false_iff_not]
          rintro rfl
          have h1 := HU.out
          rw [HV.out] at h1
          injection h1 with h1
          exact HN.out h1.symm
      · obtain rfl : k = x.length := by omega
        go_wp2
        go_ret
        refine ⟨ret_bool ?_, hE⟩
        symm
        have h1 := HT.out
        rw [List.take_length, HLL.out, List.take_length] at h1
        simpa using h1
  · have h1 : ¬ (x.length : Int) = (y.length : Int) := by omega
    go_enter Try.func28, Try.ntmps28
    go_wp2
    go_ret
    exact ⟨ret_bool (by symm; simp only [decide_eq_false_iff_not]; rintro rfl; exact hll rfl), Below.refl _ _⟩
set_option maxHeartbeats 400000 in
set_option maxRecDepth 20000 in
theorem kept_list {g d : Nat} {B : Option Addr} {l : List Vl} {w : World} (h : VBlk w g (roomed l)) (hb : DL w B d l) (hlen : l.length + 2 ≤ 2199023255552) :
    Calls Try.prog 18 #[.slice (some ⟨g, 0, none⟩) l.length (l.length + 2), .slice B l.length d] w fun e w' => e = .returned (.bool true) ∧ Ext w w' := by
  have hpl := h.list hlen hb.ok
  have hdd : decide (l = l) = true := decide_eq_true rfl
  go_enter Try.func18, Try.ntmps18
  go_wp2_with (go_at_call 28; refine (like_any hpl hb).mono ?_; rintro e w1 ⟨rfl, hE⟩)
  clear hdd
  go_loopw [6] (fun i wr => ∃ k : Nat, l.length ≤ k ∧ k ≤ l.length + 2 ∧ i = .int .i64 k ∧ Ext w wr) (fun i _ => l.length + 2 - (intOf i).toNat)
  case atStart => exact ⟨l.length, Nat.le_refl _, by omega, rfl, hE⟩
  case round =>
    obtain ⟨k, hk0, hk, rfl, hE⟩ := hrel
    by_cases hlt : k < l.length + 2
    · have hkm : k ≤ 4611686018427387904 := by omega
      have hm := roomed_mark hk0 hlt
      have hc : ∀ j u, (markV k).pc[j]? = some u → wr.cell? ⟨g, k * 6 + j, none⟩ = some u := fun j u hu => by
        have hj : j < 6 := (List.getElem?_eq_some_iff.1 hu).1
        rw [cell_of_row wr g _ _ _ _ (h.ext hE)]
        simp only [List.getElem?_toArray]
        rw [flat_at Vl.pc 6 len_pc _ k j (markV k) hm hj, hu]
      have c0 : wr.cell? ⟨g, k * 6, none⟩ = some (.int .i64 (markV k).kind) := hc 0 _ rfl
      have c1 := hc 1 _ rfl
      have c2 := hc 2 _ rfl
      have c3 := hc 3 _ rfl
      have c4 := hc 4 _ rfl
      have c5 := hc 5 _ rfl
      have hq := neqV (markV k) (markV k)
      rw [decide_eq_true rfl] at hq
      clear hc hm
      go_wp2_with (first | (go_at_call 31; refine (bits_any (v := markV k)).mono ?_; rintro e w2 ⟨rfl, hE2⟩; replace hE := hE.trans hE2; clear hE2) | (go_at_call 39; refine (mark_any hkm).mono ?_; rintro e w3 ⟨rfl, hE3⟩; replace hE := hE.trans hE3; clear hE3))
      go_roundw
      case rel => exact ⟨k + 1, by omega, by omega, by go_num, hE⟩
      case measure => simp [intOf]; omega
    · go_wp2
      go_ret
      exact ⟨rfl, hE⟩
end Go.Proofs.Ytbjfgnkjmfcokaa
