/- The law SpanNoKey: Empty and Equal speak of the keys that lie there. No condition. -/
import Derived.Test.YtijlaknfagpglaaRows
import Derived.Test.YtijlaknfagpglaaArgs
import Derived.Test.YtijlaknfagpglaaArgsr
import Derived.Test.YtijlaknfagpglaaSpanj
import Derived.Deep.Cut
import Derived.WalkKit
import Derived.ProofKit
import Derived.OpenShut
import Derived.ChangeOld
import Derived.SizedLaws
namespace Go.Proofs.Ytijlaknfagpglaa.spanNoKey
open Go.ChangeShapes Go.WideShapes Go.ChangeAt Go.RowKit Go.Proofs
set_option linter.unusedVariables false
/-! ### The walk -/
theorem no_key {r : Rg} {x : List UInt8} (h : hasB r (fromB r.lo) = false) : hasB r x = false := by
  cases hx : hasB r x with
  | false => rfl
  | true => rw [has_from r x hx] at h; cases h
theorem from_key {k : List UInt8} (h1 : 1 ≤ k.length) (h2 : k.length ≤ 24) : fromB k = k := by unfold fromB; rw [isKeyB_iff.2 ⟨h1, h2⟩]; rfl
theorem from_short {k : List UInt8} (h1 : k.length < 1) : fromB k = nextB k := by unfold fromB; rw [show isKeyB k = false by simp [isKeyB]; omega]; rfl
theorem from_long {k : List UInt8} (h1 : 24 < k.length) : fromB k = nextB k := by unfold fromB; rw [show isKeyB k = false by simp [isKeyB]; omega]; rfl
set_option maxRecDepth 8000 in
set_option maxHeartbeats 16000000 in
theorem walk {aA aB bA bB C : Option Addr} {ac ad bc bd f : Nat} {a ah b bh xs : List UInt8} {ao bo : Bool} {w : World} (ha : Sl w aA ac a) (hah : Sl w aB ad ah) (hb : Sl w bA bc b) (hbh : Sl w bB bd bh) (hx : Sl w C f xs) :
    Calls Try.prog 9 #[.agg #[.slice aA a.length ac, .slice aB ah.length ad, .bool ao], .agg #[.slice bA b.length bc, .slice bB bh.length bd, .bool bo], .slice C xs.length f] w fun e w' => e = .returned (.bool true) ∧ Ext w w' := by
  obtain ⟨q, hq⟩ : ∃ q, hasB ⟨a, ah, ao⟩ (fromB a) = q := ⟨_, rfl⟩
  obtain ⟨s, hs⟩ : ∃ s, hasB ⟨a, ah, ao⟩ xs = s := ⟨_, rfl⟩
  obtain ⟨t, ht⟩ : ∃ t, equalB ⟨a, ah, ao⟩ ⟨b, bh, bo⟩ = t := ⟨_, rfl⟩
  have HQ := Lib.hid hq
  have HQE := Lib.hid (show emptyB ⟨a, ah, ao⟩ = !q by unfold emptyB; rw [← hq])
  have HNE := Lib.hid (show q = false → s = false by rintro rfl; rw [← hs]; exact no_key hq)
  have HS := Lib.hid hs
  have HT := Lib.hid ht
  clear hq hs ht
  have hla := ha.len
  go_enter Try.func9, Try.ntmps9
  go_wp2_with fail
  have hE0 : Ext w ((w.alloc (.cells #[.slice aA a.length ac, .slice aB ah.length ad, .bool ao] 32 (0, 0))).alloc (.cells #[.slice bA b.length bc, .slice bB bh.length bd, .bool bo] 32 (0, 0))) := (ext_alloc _ _).trans (ext_alloc _ _)
  refine fixed_any.mono ?_
  rintro e w1 ⟨rfl, hE⟩
  have hy1 := hE.blk (heap_alloc2_old _ _ _)
  have hy2 := hE.blk (heap_alloc2_new _ _ _)
  replace hE := hE0.trans hE
  clear hE0
  have ga0 : w1.cell? ⟨w.heap.size, 0, none⟩ = some (.slice aA a.length ac) := cell_of_row _ _ _ _ _ _ hy1
  have ga1 : w1.cell? ⟨w.heap.size, 1, none⟩ = some (.slice aB ah.length ad) := cell_of_row _ _ _ _ _ _ hy1
  have ga2 : w1.cell? ⟨w.heap.size, 2, none⟩ = some (.bool ao) := cell_of_row _ _ _ _ _ _ hy1
  have gb0 : w1.cell? ⟨w.heap.size + 1, 0, none⟩ = some (.slice bA b.length bc) := cell_of_row _ _ _ _ _ _ hy2
  have gb1 : w1.cell? ⟨w.heap.size + 1, 1, none⟩ = some (.slice bB bh.length bd) := cell_of_row _ _ _ _ _ _ hy2
  have gb2 : w1.cell? ⟨w.heap.size + 1, 2, none⟩ = some (.bool bo) := cell_of_row _ _ _ _ _ _ hy2
  go_upto_region 4 with fail
  go_cut [19] from 8 (fun s wx => s = .bool (!isKeyB a) ∧ wx = w1)
  case first =>
    by_cases n1 : a.length < 1
    · have HK := Lib.hid (show isKeyB a = false by simp [isKeyB]; omega)
      go_wp2
      go_meet
      case rel => exact ⟨by rw [HK.out]; first | rfl | (simp; omega), rfl⟩
    · by_cases n2 : 24 < a.length
      · have HK := Lib.hid (show isKeyB a = false by simp [isKeyB]; omega)
        go_wp2
        go_meet
        case rel => exact ⟨by rw [HK.out]; first | rfl | (simp; omega), rfl⟩
      · have n3 : 1 ≤ a.length := by omega
        have n4 : a.length ≤ 24 := by omega
        have HK := Lib.hid (isKeyB_iff.2 ⟨n3, n4⟩)
        clear n1 n2
        go_wp2
        go_meet
        case rel => exact ⟨by rw [HK.out]; first | rfl | (simp; omega), rfl⟩
  case' rest =>
    obtain ⟨rfl, hww⟩ := hcut
    subst hww
    obtain ⟨kq, hkq⟩ : ∃ kq, isKeyB a = kq := ⟨_, rfl⟩
    have HKQ := Lib.hid (show fromB a = if kq then a else nextB a by unfold fromB; rw [hkq])
    rw [hkq]
    clear hkq
    go_upto_if 19 with fail
    go_cut [7] from 8 (fun s wx => ∃ A c, s = .slice A (fromB a).length c ∧ Sl wx A c (fromB a) ∧ Ext wc wx)
  case first =>
    cases kq
    · go_wp2_with fail
      refine (next_any (ha.ext hE) rfl).mono ?_
      rintro e wz ⟨A9, c9, rfl, ho, hEn⟩
      have sl := ho.sl (Nat.le_trans (nextB_length a) (by omega))
      go_wp2
      go_meet
      case rel => exact ⟨A9, c9, by rw [HKQ.out]; rfl, by rw [HKQ.out]; exact sl, hEn⟩
    · go_wp2
      go_meet
      case rel => exact ⟨aA, ac, by rw [HKQ.out]; rfl, by rw [HKQ.out]; exact ha.ext hE, Below.refl _ _⟩
  case rest =>
    obtain ⟨A9, c9, rfl, sl, hEn⟩ := hcut
    have hz1 := hEn.blk hy1
    have hz2 := hEn.blk hy2
    have hEz := hE.trans hEn
    clear hE hEn hy1 hy2
    clear ga0 ga1 ga2 gb0 gb1 gb2
    go_wp2
    go_cut [28] from 23 (fun s wx => s = .bool false ∧ Ext wc wx)
    case first =>
      refine wp_region_mild 5 (fun i => match i with
        | 1 => some fun _ v w' => v = .bool (!q)
        | 4 => some fun _ v w' => v = .bool q
        | _ => none) (by kernel_rfl) (by kernel_rfl) (fun W N hW hN => ?_)
      have hE1 := hEz.trans hW
      have ea0 : ∀ w', Ext W w' → w'.cell? ⟨w.heap.size, 0, none⟩ = some (.slice aA a.length ac) := fun w' h => cell_of_row _ _ _ _ _ _ ((hW.trans h).blk hz1)
      have ea1 : ∀ w', Ext W w' → w'.cell? ⟨w.heap.size, 1, none⟩ = some (.slice aB ah.length ad) := fun w' h => cell_of_row _ _ _ _ _ _ ((hW.trans h).blk hz1)
      have ea2 : ∀ w', Ext W w' → w'.cell? ⟨w.heap.size, 2, none⟩ = some (.bool ao) := fun w' h => cell_of_row _ _ _ _ _ _ ((hW.trans h).blk hz1)
      have eb0 : ∀ w', Ext W w' → w'.cell? ⟨w.heap.size + 1, 0, none⟩ = some (.slice bA b.length bc) := fun w' h => cell_of_row _ _ _ _ _ _ ((hW.trans h).blk hz2)
      have eb1 : ∀ w', Ext W w' → w'.cell? ⟨w.heap.size + 1, 1, none⟩ = some (.slice bB bh.length bd) := fun w' h => cell_of_row _ _ _ _ _ _ ((hW.trans h).blk hz2)
      have eb2 : ∀ w', Ext W w' → w'.cell? ⟨w.heap.size + 1, 2, none⟩ = some (.bool bo) := fun w' h => cell_of_row _ _ _ _ _ _ ((hW.trans h).blk hz2)
      simp only [List.take_succ_cons, List.take_zero]
      repeat (first | (apply wpM_one; (case hg => rfl); (case hsp => rfl); (case hv => (intro w' hw'; go_simp; exact rfl)); simp only [Act.put, List.setIfInBounds_toArray, List.set_cons_succ, List.set_cons_zero]; try simp only [wrap_zero]) | (apply wpM_oneG; (case hw => rfl); (case hsp => rfl); (case hv => (intro w' hw'; go_simp; exact rfl)); simp only [Act.put, List.setIfInBounds_toArray, List.set_cons_succ, List.set_cons_zero]; try simp only [wrap_zero]) | (apply wpM_pass; (case hw => rfl); simp only [Act.put, List.setIfInBounds_toArray, List.set_cons_succ, List.set_cons_zero]; try simp only [wrap_zero]))
      refine wpM_new _ rfl rfl (fun V v => Stable.pure) (fun V V' h => rfl) (fun w' hw' hK => ?_) (fun v hv => ?_)
      · unfold mildAt; go_simp; rw [mildUpon_enter]
        refine ⟨Below.refl _ _, (empty_any (ha.ext (hE1.trans hw')) (hah.ext (hE1.trans hw'))).mono ?_⟩
        rintro e w2 ⟨rfl, hE2⟩
        exact ⟨_, rfl, hE2, by rw [HQE.out]⟩
      obtain ⟨_, _, _, rfl⟩ := hv
      simp only [Act.put, List.setIfInBounds_toArray, List.set_cons_succ, List.set_cons_zero]
      repeat (first | (apply wpM_one; (case hg => rfl); (case hsp => rfl); (case hv => (intro w' hw'; go_simp; exact rfl)); simp only [Act.put, List.setIfInBounds_toArray, List.set_cons_succ, List.set_cons_zero]; try simp only [wrap_zero]) | (apply wpM_oneG; (case hw => rfl); (case hsp => rfl); (case hv => (intro w' hw'; go_simp; exact rfl)); simp only [Act.put, List.setIfInBounds_toArray, List.set_cons_succ, List.set_cons_zero]; try simp only [wrap_zero]) | (apply wpM_pass; (case hw => rfl); simp only [Act.put, List.setIfInBounds_toArray, List.set_cons_succ, List.set_cons_zero]; try simp only [wrap_zero]))
      refine wpM_new _ rfl rfl (fun V v => Stable.pure) (fun V V' h => rfl) (fun w' hw' hK => ?_) (fun v hv => ?_)
      · unfold mildAt; go_simp; rw [mildUpon_enter]
        refine ⟨Below.refl _ _, (has_any (ha.ext (hE1.trans hw')) (hah.ext (hE1.trans hw')) ((sl.ext hW).ext hw') rfl).mono ?_⟩
        rintro e w2 ⟨rfl, hE2⟩
        exact ⟨_, rfl, hE2, by rw [HQ.out]⟩
      obtain ⟨_, _, _, rfl⟩ := hv
      simp only [Act.put, List.setIfInBounds_toArray, List.set_cons_succ, List.set_cons_zero]
      repeat (first | (apply wpM_one; (case hg => rfl); (case hsp => rfl); (case hv => (intro w' hw'; go_simp; exact rfl)); simp only [Act.put, List.setIfInBounds_toArray, List.set_cons_succ, List.set_cons_zero]; try simp only [wrap_zero]) | (apply wpM_oneG; (case hw => rfl); (case hsp => rfl); (case hv => (intro w' hw'; go_simp; exact rfl)); simp only [Act.put, List.setIfInBounds_toArray, List.set_cons_succ, List.set_cons_zero]; try simp only [wrap_zero]) | (apply wpM_pass; (case hw => rfl); simp only [Act.put, List.setIfInBounds_toArray, List.set_cons_succ, List.set_cons_zero]; try simp only [wrap_zero]))
      apply wpM_nil
      apply hN
      intro w6 hE6 hK
      clear hK hN
      clear ea0 ea1 ea2 eb0 eb1 eb2
      go_wp2
      go_meet
      case rel => exact ⟨by cases q <;> rfl, hW.trans hE6⟩
    case rest =>
      obtain ⟨rfl, hE6⟩ := hcut
      have hy1 := hE6.blk hz1
      have hy2 := hE6.blk hz2
      have E6 := hEz.trans hE6
      clear sl hz1 hz2 hEz hE6
      have ga0 : wc.cell? ⟨w.heap.size, 0, none⟩ = some (.slice aA a.length ac) := cell_of_row _ _ _ _ _ _ hy1
      have ga1 : wc.cell? ⟨w.heap.size, 1, none⟩ = some (.slice aB ah.length ad) := cell_of_row _ _ _ _ _ _ hy1
      have ga2 : wc.cell? ⟨w.heap.size, 2, none⟩ = some (.bool ao) := cell_of_row _ _ _ _ _ _ hy1
      have gb0 : wc.cell? ⟨w.heap.size + 1, 0, none⟩ = some (.slice bA b.length bc) := cell_of_row _ _ _ _ _ _ hy2
      have gb1 : wc.cell? ⟨w.heap.size + 1, 1, none⟩ = some (.slice bB bh.length bd) := cell_of_row _ _ _ _ _ _ hy2
      have gb2 : wc.cell? ⟨w.heap.size + 1, 2, none⟩ = some (.bool bo) := cell_of_row _ _ _ _ _ _ hy2
      go_upto_region 8 with fail
      go_cut [35] from 29 (fun s wx => s = .bool false ∧ Ext wc wx)
      case first =>
        go_wp2_with fail
        refine (has_any (ha.ext E6) (hah.ext E6) (hx.ext E6) rfl).mono ?_
        rintro e w7 ⟨rfl, hE7⟩
        have hv1 := hE7.blk hy1
        have hv2 := hE7.blk hy2
        have E7 := E6.trans hE7
        clear ga0 ga1 ga2 gb0 gb1 gb2
        have ga0 : w7.cell? ⟨w.heap.size, 0, none⟩ = some (.slice aA a.length ac) := cell_of_row _ _ _ _ _ _ hv1
        have ga1 : w7.cell? ⟨w.heap.size, 1, none⟩ = some (.slice aB ah.length ad) := cell_of_row _ _ _ _ _ _ hv1
        have ga2 : w7.cell? ⟨w.heap.size, 2, none⟩ = some (.bool ao) := cell_of_row _ _ _ _ _ _ hv1
        have gb0 : w7.cell? ⟨w.heap.size + 1, 0, none⟩ = some (.slice bA b.length bc) := cell_of_row _ _ _ _ _ _ hv2
        have gb1 : w7.cell? ⟨w.heap.size + 1, 1, none⟩ = some (.slice bB bh.length bd) := cell_of_row _ _ _ _ _ _ hv2
        have gb2 : w7.cell? ⟨w.heap.size + 1, 2, none⟩ = some (.bool bo) := cell_of_row _ _ _ _ _ _ hv2
        rw [HS.out]
        cases s
        · go_wp2
          go_meet
          case rel => exact ⟨rfl, hE7⟩
        · cases q
          · exact absurd (HNE.out rfl) (by simp)
          · go_wp2_with fail
            refine (empty_any (ha.ext E7) (hah.ext E7)).mono ?_
            rintro e w8 ⟨rfl, hE8⟩
            rw [HQE.out]
            go_wp2
            go_meet
            case rel => exact ⟨rfl, hE7.trans hE8⟩
      case rest =>
        obtain ⟨rfl, hE8⟩ := hcut
        have hv1 := hE8.blk hy1
        have hv2 := hE8.blk hy2
        have E8 := E6.trans hE8
        clear ga0 ga1 ga2 gb0 gb1 gb2
        have ga0 : wc.cell? ⟨w.heap.size, 0, none⟩ = some (.slice aA a.length ac) := cell_of_row _ _ _ _ _ _ hv1
        have ga1 : wc.cell? ⟨w.heap.size, 1, none⟩ = some (.slice aB ah.length ad) := cell_of_row _ _ _ _ _ _ hv1
        have ga2 : wc.cell? ⟨w.heap.size, 2, none⟩ = some (.bool ao) := cell_of_row _ _ _ _ _ _ hv1
        have gb0 : wc.cell? ⟨w.heap.size + 1, 0, none⟩ = some (.slice bA b.length bc) := cell_of_row _ _ _ _ _ _ hv2
        have gb1 : wc.cell? ⟨w.heap.size + 1, 1, none⟩ = some (.slice bB bh.length bd) := cell_of_row _ _ _ _ _ _ hv2
        have gb2 : wc.cell? ⟨w.heap.size + 1, 2, none⟩ = some (.bool bo) := cell_of_row _ _ _ _ _ _ hv2
        go_wp2
        clear ga0 ga1 ga2 gb0 gb1 gb2
        cases t
        · refine wp_region_mild 13 (fun i => match i with
            | 2 => some fun _ v w' => v = .bool false
            | _ => none) (by kernel_rfl) (by kernel_rfl) (fun W N hW hN => ?_)
          have hE1 := E8.trans hW
          have ea0 : ∀ w', Ext W w' → w'.cell? ⟨w.heap.size, 0, none⟩ = some (.slice aA a.length ac) := fun w' h => cell_of_row _ _ _ _ _ _ ((hW.trans h).blk hv1)
          have ea1 : ∀ w', Ext W w' → w'.cell? ⟨w.heap.size, 1, none⟩ = some (.slice aB ah.length ad) := fun w' h => cell_of_row _ _ _ _ _ _ ((hW.trans h).blk hv1)
          have ea2 : ∀ w', Ext W w' → w'.cell? ⟨w.heap.size, 2, none⟩ = some (.bool ao) := fun w' h => cell_of_row _ _ _ _ _ _ ((hW.trans h).blk hv1)
          have eb0 : ∀ w', Ext W w' → w'.cell? ⟨w.heap.size + 1, 0, none⟩ = some (.slice bA b.length bc) := fun w' h => cell_of_row _ _ _ _ _ _ ((hW.trans h).blk hv2)
          have eb1 : ∀ w', Ext W w' → w'.cell? ⟨w.heap.size + 1, 1, none⟩ = some (.slice bB bh.length bd) := fun w' h => cell_of_row _ _ _ _ _ _ ((hW.trans h).blk hv2)
          have eb2 : ∀ w', Ext W w' → w'.cell? ⟨w.heap.size + 1, 2, none⟩ = some (.bool bo) := fun w' h => cell_of_row _ _ _ _ _ _ ((hW.trans h).blk hv2)
          simp only [List.take_succ_cons, List.take_zero]
          repeat (first | (apply wpM_one; (case hg => rfl); (case hsp => rfl); (case hv => (intro w' hw'; go_simp; exact rfl)); simp only [Act.put, List.setIfInBounds_toArray, List.set_cons_succ, List.set_cons_zero]; try simp only [wrap_zero]) | (apply wpM_oneG; (case hw => rfl); (case hsp => rfl); (case hv => (intro w' hw'; go_simp; exact rfl)); simp only [Act.put, List.setIfInBounds_toArray, List.set_cons_succ, List.set_cons_zero]; try simp only [wrap_zero]) | (apply wpM_pass; (case hw => rfl); simp only [Act.put, List.setIfInBounds_toArray, List.set_cons_succ, List.set_cons_zero]; try simp only [wrap_zero]))
          refine wpM_new _ rfl rfl (fun V v => Stable.pure) (fun V V' h => rfl) (fun w' hw' hK => ?_) (fun v hv => ?_)
          · unfold mildAt; go_simp; rw [mildUpon_enter]
            refine ⟨Below.refl _ _, (equal_any (ha.ext (hE1.trans hw')) (hah.ext (hE1.trans hw')) (hb.ext (hE1.trans hw')) (hbh.ext (hE1.trans hw'))).mono ?_⟩
            rintro e w2 ⟨rfl, hE2⟩
            exact ⟨_, rfl, hE2, by rw [HT.out]⟩
          obtain ⟨_, _, _, rfl⟩ := hv
          simp only [Act.put, List.setIfInBounds_toArray, List.set_cons_succ, List.set_cons_zero]
          repeat (first | (apply wpM_one; (case hg => rfl); (case hsp => rfl); (case hv => (intro w' hw'; go_simp; exact rfl)); simp only [Act.put, List.setIfInBounds_toArray, List.set_cons_succ, List.set_cons_zero]; try simp only [wrap_zero]) | (apply wpM_oneG; (case hw => rfl); (case hsp => rfl); (case hv => (intro w' hw'; go_simp; exact rfl)); simp only [Act.put, List.setIfInBounds_toArray, List.set_cons_succ, List.set_cons_zero]; try simp only [wrap_zero]) | (apply wpM_pass; (case hw => rfl); simp only [Act.put, List.setIfInBounds_toArray, List.set_cons_succ, List.set_cons_zero]; try simp only [wrap_zero]))
          apply wpM_nil
          apply hN
          intro w' hE' hK
          clear hK hN
          go_wp2
          go_ret
          exact ⟨rfl, hE1.trans hE'⟩
        · refine wp_region_mild 13 (fun i => match i with
            | 2 => some fun _ v w' => v = .bool true
            | 7 => some fun _ v w' => v = .bool s
            | 10 => some fun _ v w' => v = .bool s
            | _ => none) (by kernel_rfl) (by kernel_rfl) (fun W N hW hN => ?_)
          have hE1 := E8.trans hW
          have ea0 : ∀ w', Ext W w' → w'.cell? ⟨w.heap.size, 0, none⟩ = some (.slice aA a.length ac) := fun w' h => cell_of_row _ _ _ _ _ _ ((hW.trans h).blk hv1)
          have ea1 : ∀ w', Ext W w' → w'.cell? ⟨w.heap.size, 1, none⟩ = some (.slice aB ah.length ad) := fun w' h => cell_of_row _ _ _ _ _ _ ((hW.trans h).blk hv1)
          have ea2 : ∀ w', Ext W w' → w'.cell? ⟨w.heap.size, 2, none⟩ = some (.bool ao) := fun w' h => cell_of_row _ _ _ _ _ _ ((hW.trans h).blk hv1)
          have eb0 : ∀ w', Ext W w' → w'.cell? ⟨w.heap.size + 1, 0, none⟩ = some (.slice bA b.length bc) := fun w' h => cell_of_row _ _ _ _ _ _ ((hW.trans h).blk hv2)
          have eb1 : ∀ w', Ext W w' → w'.cell? ⟨w.heap.size + 1, 1, none⟩ = some (.slice bB bh.length bd) := fun w' h => cell_of_row _ _ _ _ _ _ ((hW.trans h).blk hv2)
          have eb2 : ∀ w', Ext W w' → w'.cell? ⟨w.heap.size + 1, 2, none⟩ = some (.bool bo) := fun w' h => cell_of_row _ _ _ _ _ _ ((hW.trans h).blk hv2)
          simp only [List.take_succ_cons, List.take_zero]
          repeat (first | (apply wpM_one; (case hg => rfl); (case hsp => rfl); (case hv => (intro w' hw'; go_simp; exact rfl)); simp only [Act.put, List.setIfInBounds_toArray, List.set_cons_succ, List.set_cons_zero]; try simp only [wrap_zero]) | (apply wpM_oneG; (case hw => rfl); (case hsp => rfl); (case hv => (intro w' hw'; go_simp; exact rfl)); simp only [Act.put, List.setIfInBounds_toArray, List.set_cons_succ, List.set_cons_zero]; try simp only [wrap_zero]) | (apply wpM_pass; (case hw => rfl); simp only [Act.put, List.setIfInBounds_toArray, List.set_cons_succ, List.set_cons_zero]; try simp only [wrap_zero]))
          refine wpM_new _ rfl rfl (fun V v => Stable.pure) (fun V V' h => rfl) (fun w' hw' hK => ?_) (fun v hv => ?_)
          · unfold mildAt; go_simp; rw [mildUpon_enter]
            refine ⟨Below.refl _ _, (equal_any (ha.ext (hE1.trans hw')) (hah.ext (hE1.trans hw')) (hb.ext (hE1.trans hw')) (hbh.ext (hE1.trans hw'))).mono ?_⟩
            rintro e w2 ⟨rfl, hE2⟩
            exact ⟨_, rfl, hE2, by rw [HT.out]⟩
          obtain ⟨_, _, _, rfl⟩ := hv
          simp only [Act.put, List.setIfInBounds_toArray, List.set_cons_succ, List.set_cons_zero]
          repeat (first | (apply wpM_one; (case hg => rfl); (case hsp => rfl); (case hv => (intro w' hw'; go_simp; exact rfl)); simp only [Act.put, List.setIfInBounds_toArray, List.set_cons_succ, List.set_cons_zero]; try simp only [wrap_zero]) | (apply wpM_oneG; (case hw => rfl); (case hsp => rfl); (case hv => (intro w' hw'; go_simp; exact rfl)); simp only [Act.put, List.setIfInBounds_toArray, List.set_cons_succ, List.set_cons_zero]; try simp only [wrap_zero]) | (apply wpM_pass; (case hw => rfl); simp only [Act.put, List.setIfInBounds_toArray, List.set_cons_succ, List.set_cons_zero]; try simp only [wrap_zero]))
          refine wpM_newG _ rfl rfl (fun V v => Stable.pure) (fun V V' h => rfl) (fun w' hw' hK => ?_) (fun v hv => ?_)
          · unfold mildAt; go_simp; rw [mildUpon_enter]
            refine ⟨Below.refl _ _, (has_any (ha.ext (hE1.trans hw')) (hah.ext (hE1.trans hw')) (hx.ext (hE1.trans hw')) rfl).mono ?_⟩
            rintro e w2 ⟨rfl, hE2⟩
            exact ⟨_, rfl, hE2, by rw [HS.out]⟩
          obtain ⟨_, _, _, rfl⟩ := hv
          simp only [Act.put, List.setIfInBounds_toArray, List.set_cons_succ, List.set_cons_zero]
          repeat (first | (apply wpM_one; (case hg => rfl); (case hsp => rfl); (case hv => (intro w' hw'; go_simp; exact rfl)); simp only [Act.put, List.setIfInBounds_toArray, List.set_cons_succ, List.set_cons_zero]; try simp only [wrap_zero]) | (apply wpM_oneG; (case hw => rfl); (case hsp => rfl); (case hv => (intro w' hw'; go_simp; exact rfl)); simp only [Act.put, List.setIfInBounds_toArray, List.set_cons_succ, List.set_cons_zero]; try simp only [wrap_zero]) | (apply wpM_pass; (case hw => rfl); simp only [Act.put, List.setIfInBounds_toArray, List.set_cons_succ, List.set_cons_zero]; try simp only [wrap_zero]))
          refine wpM_newG _ rfl rfl (fun V v => Stable.pure) (fun V V' h => rfl) (fun w' hw' hK => ?_) (fun v hv => ?_)
          · unfold mildAt; go_simp; rw [mildUpon_enter]
            refine ⟨Below.refl _ _, (has_any (hb.ext (hE1.trans hw')) (hbh.ext (hE1.trans hw')) (hx.ext (hE1.trans hw')) rfl).mono ?_⟩
            rintro e w2 ⟨rfl, hE2⟩
            exact ⟨_, rfl, hE2, by rw [← equal_has _ _ xs HT.out, HS.out]⟩
          obtain ⟨_, _, _, rfl⟩ := hv
          simp only [Act.put, List.setIfInBounds_toArray, List.set_cons_succ, List.set_cons_zero]
          repeat (first | (apply wpM_one; (case hg => rfl); (case hsp => rfl); (case hv => (intro w' hw'; go_simp; exact rfl)); simp only [Act.put, List.setIfInBounds_toArray, List.set_cons_succ, List.set_cons_zero]; try simp only [wrap_zero]) | (apply wpM_oneG; (case hw => rfl); (case hsp => rfl); (case hv => (intro w' hw'; go_simp; exact rfl)); simp only [Act.put, List.setIfInBounds_toArray, List.set_cons_succ, List.set_cons_zero]; try simp only [wrap_zero]) | (apply wpM_pass; (case hw => rfl); simp only [Act.put, List.setIfInBounds_toArray, List.set_cons_succ, List.set_cons_zero]; try simp only [wrap_zero]))
          apply wpM_nil
          apply hN
          intro w' hE' hK
          clear hK hN
          go_wp2
          go_ret
          exact ⟨rfl, hE1.trans hE'⟩
set_option maxRecDepth 100000 in
theorem lifted (os : Os) (started : os.Started) (H : Type) (enc : TypeId × Value → H) :
    ReturnsInHanded {} Try.checked os 9 .any (Rows.spanNoKeySpec.pre6 enc Try.prog Try.f9 Rows.spanNoKeyRow.domain false) (Rows.spanNoKeySpec.post enc Try.prog Try.f9 false true false false) := by
  refine returnsInHanded_of_change_sized (C := Try.checked) own' started (by kernel_rfl) Try.func9
    (ChangeSpec.witness6 (enc := enc) (C := Try.checked) false ⟨#[], #[.agg #[.slice none 0 0, .slice none 0 0, .bool false], .agg #[.slice none 0 0, .slice none 0 0, .bool false], .slice none 0 0], []⟩ 8 (by kernel_rfl) (by kernel_rfl) (by kernel_rfl) (by kernel_rfl)) ?_
  intro W base args ds gs before hval0 hW hcnd hsz0 _
  have hval : ∀ (j : Nat) t v, Try.f9.params[j]? = some t → args[j]? = some v → Value.okWide Try.prog W .any base t v := hval0
  have hsz : (DataW.weightsEach Try.prog (Try.f9.params.toList ++ Rows.spanNoKeySpec.plain.varTypes Try.prog) (ds ++ gs)).all (· ≤ reachBytes) = true := hsz0
  have hW' := hW
  obtain ⟨p, q, hA0, hV, rfl, hfz, hnd⟩ := hW
  have hA : DataW.TrodAll enc Try.prog W 0 (fun _ => true) true Try.f9.params.toList args.toList ds p := hA0
  rw [Try.params9] at hA hval hsz
  obtain ⟨v0, vs0, d0, ds0, p0, q0, hargs, rfl, rfl, h0, r0⟩ := trodAll_cons hA
  obtain ⟨v1, vs1, d1, ds1, p1, q1, rfl, rfl, rfl, h1, r1⟩ := trodAll_cons r0
  obtain ⟨v2, vs2, d2, ds2, p2, q2, rfl, rfl, rfl, h2, r2⟩ := trodAll_cons r1
  obtain ⟨rfl, rfl, rfl⟩ := trodAll_nil r2
  obtain rfl : args = #[v0, v1, v2] := by cases args; simp_all
  obtain ⟨rfl, rfl⟩ := trodVars_none hV
  have lt0 : ∀ x ∈ p0, x.block < W.heap.size := by obtain ⟨m, hm⟩ := h0; exact DataW.trod_lt m _ _ _ hm
  obtain ⟨la0, lc0, ha0, hc0, lo0, hi0, op0, rfl, s0, t0⟩ := range_of_trod (hval 0 32 v0 rfl rfl) h0 (fun n hn => List.all_eq_true.1 hsz _ (DataW.weights_mem_each (j := 0) (t := 32) rfl rfl n hn))
  have lt1 : ∀ x ∈ p1, x.block < W.heap.size := by obtain ⟨m, hm⟩ := h1; exact DataW.trod_lt m _ _ _ hm
  obtain ⟨la1, lc1, ha1, hc1, lo1, hi1, op1, rfl, s1, t1⟩ := range_of_trod (hval 1 32 v1 rfl rfl) h1 (fun n hn => List.all_eq_true.1 hsz _ (DataW.weights_mem_each (j := 1) (t := 32) rfl rfl n hn))
  obtain ⟨a2, len2, cap2, rfl⟩ := okWide_slice Try.underlying22 (hval 2 22 v2 rfl rfl)
  have lt2 : ∀ x ∈ p2, x.block < W.heap.size := by obtain ⟨m, hm⟩ := h2; exact DataW.trod_lt m _ _ _ hm
  obtain ⟨b2, rfl, rd2, le2, _, sz2⟩ := sl_of_trod rfl h2
  have s2 : Sl W a2 cap2 b2 := Sl.of_size rd2 le2 (by
    rcases sz2 with ⟨_, h⟩ | ⟨el, sp, he, h⟩
    · rw [h]; exact Nat.zero_le _
    · have := sized_slice hsz (j := 2) (t := 22) (e := 5) rfl (by rw [he]; rfl) Try.underlying22
      rwa [bytesU8, Nat.mul_one, h] at this)
  clear hA0 hval0
  refine (walk s0 t0 s1 t1 s2).mono fun e W' ⟨he, bel⟩ => ?_
  subst he
  exact ⟨_, rfl, _, _, _, [], _, [], hW', trodAll_mk1 (shut_bool Try.underlying4 _), (trodAll_cons_mk (Below.trod laidOut' (by kernel_rfl) (of_decide_eq_true (by kernel_rfl)) h0 bel lt0) (trodAll_cons_mk (Below.trod laidOut' (by kernel_rfl) (of_decide_eq_true (by kernel_rfl)) h1 bel lt1) (trodAll_cons_mk (Below.trod laidOut' (by kernel_rfl) (of_decide_eq_true (by kernel_rfl)) h2 bel lt2) trodAll_mk0))), rfl, bel.frame _, fun h => by cases h⟩
theorem over : Rows.spanNoKeyRow.holds Try.pinned (OpenSpec.ofChange Rows.spanNoKeySpec) :=
  OpenClaim.holds_of_wide 9 Try.f9 rfl rfl rfl rfl rfl rfl rfl ⟨rfl, rfl, rfl, rfl, rfl⟩ rfl rfl rfl rfl rfl (by kernel_rfl) Try.func9 (by kernel_rfl)
    (of_decide_eq_true (by kernel_rfl)) (by unfold Func.isWrapper; first | (rw [if_pos (by decide +kernel)]; kernel_rfl) | (rw [if_neg (by decide +kernel)]; exact ⟨rfl, rfl⟩))
    (fun os started H enc _ => lifted os started H enc)
/-- The statement. -/
theorem proved : Rows.SpanNoKeySaid := over
#print axioms proved
end Go.Proofs.Ytijlaknfagpglaa.spanNoKey
