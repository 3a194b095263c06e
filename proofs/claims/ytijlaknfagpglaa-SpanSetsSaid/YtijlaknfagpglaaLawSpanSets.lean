/- The law SpanSets: Meet, Above and Split speak of the keys that lie there. No condition. -/
import Derived.Test.YtijlaknfagpglaaRows
import Derived.Test.YtijlaknfagpglaaArgs
import Derived.Test.YtijlaknfagpglaaArgsr
import Derived.Test.YtijlaknfagpglaaSpanj
import Derived.Test.YtijlaknfagpglaaSpsplit
import Derived.Deep.Cut
import Derived.WalkKit
import Derived.ProofKit
import Derived.OpenShut
import Derived.ChangeOld
import Derived.SizedLaws
namespace Go.Proofs.Ytijlaknfagpglaa.spanSets
open Go.ChangeShapes Go.WideShapes Go.ChangeAt Go.RowKit Go.Proofs
set_option linter.unusedVariables false
/-! ### The walk -/
theorem maxB_len (a b : List UInt8) (m : Nat) (h : a.length ≤ m) (k : b.length ≤ m) : (maxB a b).length ≤ m := by unfold maxB; split <;> assumption
theorem minB_len (a b : List UInt8) (m : Nat) (h : a.length ≤ m) (k : b.length ≤ m) : (minB a b).length ≤ m := by unfold minB; split <;> assumption
theorem meet_len (a b : Rg) (m : Nat) (h1 : a.lo.length ≤ m) (h2 : a.hi.length ≤ m) (h3 : b.lo.length ≤ m) (h4 : b.hi.length ≤ m) : (meetB a b).lo.length ≤ m ∧ (meetB a b).hi.length ≤ m := by
  refine ⟨maxB_len _ _ _ h1 h3, ?_⟩
  unfold meetB
  dsimp only
  split
  · simp
  · split
    · exact h4
    · split
      · exact h2
      · exact minB_len _ _ _ h2 h4
theorem low_len (a : Rg) (k : List UInt8) (m : Nat) (h1 : a.lo.length ≤ m) (h2 : a.hi.length ≤ m) (h3 : k.length ≤ m) : (lowB a k).lo.length ≤ m ∧ (lowB a k).hi.length ≤ m := by
  refine ⟨h1, ?_⟩
  unfold lowB
  dsimp only
  split
  · exact h3
  · exact minB_len _ _ _ h2 h3
theorem high_len (a : Rg) (k : List UInt8) (m : Nat) (h1 : a.lo.length ≤ m) (h2 : a.hi.length ≤ m) (h3 : k.length ≤ m) : (highB a k).lo.length ≤ m ∧ (highB a k).hi.length ≤ m := by
  refine ⟨maxB_len _ _ _ h1 h3, ?_⟩
  unfold highB
  dsimp only
  split
  · simp
  · exact h2
theorem stable_two {r : Rg} (v : Value) : Stable (fun w => ∃ A c B d, v = .agg #[.slice A r.lo.length c, .slice B r.hi.length d, .bool r.op] ∧ Sl w A c r.lo ∧ Sl w B d r.hi) := fun w w' ⟨A, c, B, d, h, k, l⟩ he => ⟨A, c, B, d, h, k.ext he, l.ext he⟩
theorem split_any {aA aB C : Option Addr} {ac ad f n : Nat} {a ah k : List UInt8} {ao : Bool} {w : World} (ha : Sl w aA ac a) (hah : Sl w aB ad ah) (hk : Sl w C f k) (hn : n = k.length) :
    Calls Try.prog 32 #[.agg #[.slice aA a.length ac, .slice aB ah.length ad, .bool ao], .slice C n f] w fun e w' => ∃ A c B d A2 c2 B2 d2 r s, r = lowB ⟨a, ah, ao⟩ k ∧ s = highB ⟨a, ah, ao⟩ k ∧
      e = .returned (.tuple #[.agg #[.slice A r.lo.length c, .slice B r.hi.length d, .bool r.op], .agg #[.slice A2 s.lo.length c2, .slice B2 s.hi.length d2, .bool s.op]]) ∧
      Own 5 w.heap.size w' A c r.lo ∧ Own 5 w.heap.size w' B d r.hi ∧ Own 5 w.heap.size w' A2 c2 s.lo ∧ Own 5 w.heap.size w' B2 d2 s.hi ∧ Ext w w' := by
  cases ao
  · exact split_false ha hah hk hn
  · exact split_true ha hah hk hn
set_option maxRecDepth 8000 in
set_option maxHeartbeats 16000000 in
theorem walk {aA aB bA bB C : Option Addr} {ac ad bc bd f : Nat} {a ah b bh xs : List UInt8} {ao bo : Bool} {w : World} (ha : Sl w aA ac a) (hah : Sl w aB ad ah) (hb : Sl w bA bc b) (hbh : Sl w bB bd bh) (hx : Sl w C f xs) :
    Calls Try.prog 11 #[.agg #[.slice aA a.length ac, .slice aB ah.length ad, .bool ao], .agg #[.slice bA b.length bc, .slice bB bh.length bd, .bool bo], .slice C xs.length f] w fun e w' => e = .returned (.bool true) ∧ Ext w w' := by
  obtain ⟨p, hp⟩ : ∃ p, hasB ⟨a, ah, ao⟩ xs = p := ⟨_, rfl⟩
  obtain ⟨q, hq⟩ : ∃ q, hasB ⟨b, bh, bo⟩ xs = q := ⟨_, rfl⟩
  have HP := Lib.hid hp
  have HQ := Lib.hid hq
  have HM := Lib.hid (meet_len ⟨a, ah, ao⟩ ⟨b, bh, bo⟩ _ ha.len hah.len hb.len hbh.len)
  clear hp hq
  go_enter Try.func11, Try.ntmps11
  go_wp2_with fail
  have hE0 : Ext w ((w.alloc (.cells #[.slice aA a.length ac, .slice aB ah.length ad, .bool ao] 32 (0, 0))).alloc (.cells #[.slice bA b.length bc, .slice bB bh.length bd, .bool bo] 32 (0, 0))) := (ext_alloc _ _).trans (ext_alloc _ _)
  refine fixed_any.mono ?_
  rintro e w1 ⟨rfl, hE⟩
  have hy1 := hE.blk (heap_alloc2_old _ _ _)
  have hy2 := hE.blk (heap_alloc2_new _ _ _)
  replace hE := hE0.trans hE
  clear hE0
  have ga0 : w1.cell? ⟨w.heap.size, 0, none⟩ = some (.slice aA a.length ac) := cell_of_row _ _ _ _ _ _ hy1
  have ga1 : w1.cell? ⟨w.heap.size, 1, none⟩ = some (.slice aB ah.length ad) := cell_of_row _ _ _ _ _ _ hy1
  have ga2 : w1.cell? ⟨w.heap.size, 2, none⟩ = some (.bool ao) := cell_of_row _ _ _ _ _ _ hy1
  have gb0 : w1.cell? ⟨w.heap.size + 1, 0, none⟩ = some (.slice bA b.length bc) := cell_of_row _ _ _ _ _ _ hy2
  have gb1 : w1.cell? ⟨w.heap.size + 1, 1, none⟩ = some (.slice bB bh.length bd) := cell_of_row _ _ _ _ _ _ hy2
  have gb2 : w1.cell? ⟨w.heap.size + 1, 2, none⟩ = some (.bool bo) := cell_of_row _ _ _ _ _ _ hy2
  by_cases n1 : xs.length < 1
  · have hk : isKeyB xs = false := by simp [isKeyB]; omega
    have HP := Lib.hid (show hasB ⟨a, ah, ao⟩ xs = false from has_key hk)
    have HQ := Lib.hid (show hasB ⟨b, bh, bo⟩ xs = false from has_key hk)
    clear hk
    go_wp2_with fail
    refine (has_any (ha.ext hE) (hah.ext hE) (hx.ext hE) rfl).mono ?_
    rintro e w2 ⟨rfl, hE2⟩
    rw [HP.out]
    have hz2 := hE2.blk hy2
    replace hE2 := hE.trans hE2
    clear ga0 ga1 ga2 gb0 gb1 gb2
    have gb0 : w2.cell? ⟨w.heap.size + 1, 0, none⟩ = some (.slice bA b.length bc) := cell_of_row _ _ _ _ _ _ hz2
    have gb1 : w2.cell? ⟨w.heap.size + 1, 1, none⟩ = some (.slice bB bh.length bd) := cell_of_row _ _ _ _ _ _ hz2
    have gb2 : w2.cell? ⟨w.heap.size + 1, 2, none⟩ = some (.bool bo) := cell_of_row _ _ _ _ _ _ hz2
    go_wp2_with fail
    refine (has_any (hb.ext hE2) (hbh.ext hE2) (hx.ext hE2) rfl).mono ?_
    rintro e w3 ⟨rfl, hE3⟩
    rw [HQ.out]
    go_wp2
    go_ret
    exact ⟨rfl, hE2.trans hE3⟩
  by_cases n2 : 24 < xs.length
  · have hk : isKeyB xs = false := by simp [isKeyB]; omega
    have HP := Lib.hid (show hasB ⟨a, ah, ao⟩ xs = false from has_key hk)
    have HQ := Lib.hid (show hasB ⟨b, bh, bo⟩ xs = false from has_key hk)
    clear hk
    go_wp2_with fail
    refine (has_any (ha.ext hE) (hah.ext hE) (hx.ext hE) rfl).mono ?_
    rintro e w2 ⟨rfl, hE2⟩
    rw [HP.out]
    have hz2 := hE2.blk hy2
    replace hE2 := hE.trans hE2
    clear ga0 ga1 ga2 gb0 gb1 gb2
    have gb0 : w2.cell? ⟨w.heap.size + 1, 0, none⟩ = some (.slice bA b.length bc) := cell_of_row _ _ _ _ _ _ hz2
    have gb1 : w2.cell? ⟨w.heap.size + 1, 1, none⟩ = some (.slice bB bh.length bd) := cell_of_row _ _ _ _ _ _ hz2
    have gb2 : w2.cell? ⟨w.heap.size + 1, 2, none⟩ = some (.bool bo) := cell_of_row _ _ _ _ _ _ hz2
    go_wp2_with fail
    refine (has_any (hb.ext hE2) (hbh.ext hE2) (hx.ext hE2) rfl).mono ?_
    rintro e w3 ⟨rfl, hE3⟩
    rw [HQ.out]
    go_wp2
    go_ret
    exact ⟨rfl, hE2.trans hE3⟩
  have n3 : 1 ≤ xs.length := by omega
  have n4 : xs.length ≤ 24 := by omega
  have HK := Lib.hid (isKeyB_iff.2 ⟨n3, n4⟩)
  go_wp2
  clear ga0 ga1 ga2 gb0 gb1 gb2
  go_cut [49] from 10 (fun s wx => s = .bool false ∧ Ext w1 wx)
  case first =>
    rcases Int.lt_or_le (cmpB xs a) 0 with h0 | h0
    · have HP := Lib.hid (has_lo (r := ⟨a, ah, ao⟩) h0)
      have D1 := Lib.hid (show decide (0 ≤ cmpB xs a) = false by simp; omega)
      refine wp_region_mild 19 (fun i => match i with
        | 2 => some fun _ v w' => v = .bool false
        | 6 => some fun _ v w' => v = .int .i64 (cmpB xs a)
        | _ => none) (by kernel_rfl) (by kernel_rfl) (fun W N hW hN => ?_)
      have hE1 := hE.trans hW
      have ea0 : ∀ w', Ext W w' → w'.cell? ⟨w.heap.size, 0, none⟩ = some (.slice aA a.length ac) := fun w' h => cell_of_row _ _ _ _ _ _ ((hW.trans h).blk hy1)
      have ea1 : ∀ w', Ext W w' → w'.cell? ⟨w.heap.size, 1, none⟩ = some (.slice aB ah.length ad) := fun w' h => cell_of_row _ _ _ _ _ _ ((hW.trans h).blk hy1)
      have ea2 : ∀ w', Ext W w' → w'.cell? ⟨w.heap.size, 2, none⟩ = some (.bool ao) := fun w' h => cell_of_row _ _ _ _ _ _ ((hW.trans h).blk hy1)
      have eb0 : ∀ w', Ext W w' → w'.cell? ⟨w.heap.size + 1, 0, none⟩ = some (.slice bA b.length bc) := fun w' h => cell_of_row _ _ _ _ _ _ ((hW.trans h).blk hy2)
      have eb1 : ∀ w', Ext W w' → w'.cell? ⟨w.heap.size + 1, 1, none⟩ = some (.slice bB bh.length bd) := fun w' h => cell_of_row _ _ _ _ _ _ ((hW.trans h).blk hy2)
      have eb2 : ∀ w', Ext W w' → w'.cell? ⟨w.heap.size + 1, 2, none⟩ = some (.bool bo) := fun w' h => cell_of_row _ _ _ _ _ _ ((hW.trans h).blk hy2)
      simp only [List.take_succ_cons, List.take_zero]
      repeat (first | (apply wpM_one; (case hg => rfl); (case hsp => rfl); (case hv => (intro w' hw'; go_simp; exact rfl)); simp only [Act.put, List.setIfInBounds_toArray, List.set_cons_succ, List.set_cons_zero]; try simp only [wrap_zero]) | (apply wpM_oneG; (case hw => rfl); (case hsp => rfl); (case hv => (intro w' hw'; go_simp; exact rfl)); simp only [Act.put, List.setIfInBounds_toArray, List.set_cons_succ, List.set_cons_zero]; try simp only [wrap_zero]) | (apply wpM_pass; (case hw => rfl); simp only [Act.put, List.setIfInBounds_toArray, List.set_cons_succ, List.set_cons_zero]; try simp only [wrap_zero]))
      refine wpM_new _ rfl rfl (fun V v => Stable.pure) (fun V V' h => rfl) (fun w' hw' hK => ?_) (fun v hv => ?_)
      · unfold mildAt; go_simp; rw [mildUpon_enter]
        refine ⟨Below.refl _ _, (has_any (ha.ext (hE1.trans hw')) (hah.ext (hE1.trans hw')) (hx.ext (hE1.trans hw')) rfl).mono ?_⟩
        rintro e w2 ⟨rfl, hE2⟩
        exact ⟨_, rfl, hE2, by rw [HP.out]⟩
      obtain ⟨_, _, _, rfl⟩ := hv
      simp only [Act.put, List.setIfInBounds_toArray, List.set_cons_succ, List.set_cons_zero]
      repeat (first | (apply wpM_one; (case hg => rfl); (case hsp => rfl); (case hv => (intro w' hw'; go_simp; exact rfl)); simp only [Act.put, List.setIfInBounds_toArray, List.set_cons_succ, List.set_cons_zero]; try simp only [wrap_zero]) | (apply wpM_oneG; (case hw => rfl); (case hsp => rfl); (case hv => (intro w' hw'; go_simp; exact rfl)); simp only [Act.put, List.setIfInBounds_toArray, List.set_cons_succ, List.set_cons_zero]; try simp only [wrap_zero]) | (apply wpM_pass; (case hw => rfl); simp only [Act.put, List.setIfInBounds_toArray, List.set_cons_succ, List.set_cons_zero]; try simp only [wrap_zero]))
      refine wpM_new _ rfl rfl (fun V v => Stable.pure) (fun V V' h => rfl) (fun w' hw' hK => ?_) (fun v hv => ?_)
      · unfold mildAt; go_simp; rw [mildUpon_enter]
        refine ⟨Below.refl _ _, (scmp_any (hx.ext (hE1.trans hw')) (ha.ext (hE1.trans hw')) rfl rfl).mono ?_⟩
        rintro e w2 ⟨rfl, hE2⟩
        exact ⟨_, rfl, hE2, rfl⟩
      obtain ⟨_, _, _, rfl⟩ := hv
      simp only [Act.put, List.setIfInBounds_toArray, List.set_cons_succ, List.set_cons_zero]
      repeat (first | (apply wpM_one; (case hg => rfl); (case hsp => rfl); (case hv => (intro w' hw'; go_simp; exact rfl)); simp only [Act.put, List.setIfInBounds_toArray, List.set_cons_succ, List.set_cons_zero]; try simp only [wrap_zero]) | (apply wpM_oneG; (case hw => rfl); (case hsp => rfl); (case hv => (intro w' hw'; go_simp; exact rfl)); simp only [Act.put, List.setIfInBounds_toArray, List.set_cons_succ, List.set_cons_zero]; try simp only [wrap_zero]) | (apply wpM_pass; (case hw => rfl); simp only [Act.put, List.setIfInBounds_toArray, List.set_cons_succ, List.set_cons_zero]; try simp only [wrap_zero]))
      try simp only [D1.out]
      repeat (first | (apply wpM_one; (case hg => rfl); (case hsp => rfl); (case hv => (intro w' hw'; go_simp; exact rfl)); simp only [Act.put, List.setIfInBounds_toArray, List.set_cons_succ, List.set_cons_zero]; try simp only [wrap_zero]) | (apply wpM_oneG; (case hw => rfl); (case hsp => rfl); (case hv => (intro w' hw'; go_simp; exact rfl)); simp only [Act.put, List.setIfInBounds_toArray, List.set_cons_succ, List.set_cons_zero]; try simp only [wrap_zero]) | (apply wpM_pass; (case hw => rfl); simp only [Act.put, List.setIfInBounds_toArray, List.set_cons_succ, List.set_cons_zero]; try simp only [wrap_zero]))
      apply wpM_nil
      apply hN
      intro w6 hE6 hK
      clear hK hN
      clear ea0 ea1 ea2 eb0 eb1 eb2
      go_wp2
      go_meet
      case rel => exact ⟨by first | rfl | (simp; done) | (simp; omega), hW.trans hE6⟩
    · have D1 := Lib.hid (show decide (0 ≤ cmpB xs a) = true by simp; omega)
      cases ao
      · rcases Int.lt_or_le (cmpB xs ah) 0 with h1 | h1
        · have HP := Lib.hid (has_hi HK.out h0 h1)
          refine wp_region_mild 19 (fun i => match i with
            | 2 => some fun _ v w' => v = .bool true
            | 6 => some fun _ v w' => v = .int .i64 (cmpB xs a)
            | 15 => some fun _ v w' => v = .int .i64 (cmpB xs ah)
            | _ => none) (by kernel_rfl) (by kernel_rfl) (fun W N hW hN => ?_)
          have hE1 := hE.trans hW
          have ea0 : ∀ w', Ext W w' → w'.cell? ⟨w.heap.size, 0, none⟩ = some (.slice aA a.length ac) := fun w' h => cell_of_row _ _ _ _ _ _ ((hW.trans h).blk hy1)
          have ea1 : ∀ w', Ext W w' → w'.cell? ⟨w.heap.size, 1, none⟩ = some (.slice aB ah.length ad) := fun w' h => cell_of_row _ _ _ _ _ _ ((hW.trans h).blk hy1)
          have ea2 : ∀ w', Ext W w' → w'.cell? ⟨w.heap.size, 2, none⟩ = some (.bool false) := fun w' h => cell_of_row _ _ _ _ _ _ ((hW.trans h).blk hy1)
          have eb0 : ∀ w', Ext W w' → w'.cell? ⟨w.heap.size + 1, 0, none⟩ = some (.slice bA b.length bc) := fun w' h => cell_of_row _ _ _ _ _ _ ((hW.trans h).blk hy2)
          have eb1 : ∀ w', Ext W w' → w'.cell? ⟨w.heap.size + 1, 1, none⟩ = some (.slice bB bh.length bd) := fun w' h => cell_of_row _ _ _ _ _ _ ((hW.trans h).blk hy2)
          have eb2 : ∀ w', Ext W w' → w'.cell? ⟨w.heap.size + 1, 2, none⟩ = some (.bool bo) := fun w' h => cell_of_row _ _ _ _ _ _ ((hW.trans h).blk hy2)
          simp only [List.take_succ_cons, List.take_zero]
          repeat (first | (apply wpM_one; (case hg => rfl); (case hsp => rfl); (case hv => (intro w' hw'; go_simp; exact rfl)); simp only [Act.put, List.setIfInBounds_toArray, List.set_cons_succ, List.set_cons_zero]; try simp only [wrap_zero]) | (apply wpM_oneG; (case hw => rfl); (case hsp => rfl); (case hv => (intro w' hw'; go_simp; exact rfl)); simp only [Act.put, List.setIfInBounds_toArray, List.set_cons_succ, List.set_cons_zero]; try simp only [wrap_zero]) | (apply wpM_pass; (case hw => rfl); simp only [Act.put, List.setIfInBounds_toArray, List.set_cons_succ, List.set_cons_zero]; try simp only [wrap_zero]))
          refine wpM_new _ rfl rfl (fun V v => Stable.pure) (fun V V' h => rfl) (fun w' hw' hK => ?_) (fun v hv => ?_)
          · unfold mildAt; go_simp; rw [mildUpon_enter]
            refine ⟨Below.refl _ _, (has_any (ha.ext (hE1.trans hw')) (hah.ext (hE1.trans hw')) (hx.ext (hE1.trans hw')) rfl).mono ?_⟩
            rintro e w2 ⟨rfl, hE2⟩
            exact ⟨_, rfl, hE2, by rw [HP.out]⟩
          obtain ⟨_, _, _, rfl⟩ := hv
          simp only [Act.put, List.setIfInBounds_toArray, List.set_cons_succ, List.set_cons_zero]
          repeat (first | (apply wpM_one; (case hg => rfl); (case hsp => rfl); (case hv => (intro w' hw'; go_simp; exact rfl)); simp only [Act.put, List.setIfInBounds_toArray, List.set_cons_succ, List.set_cons_zero]; try simp only [wrap_zero]) | (apply wpM_oneG; (case hw => rfl); (case hsp => rfl); (case hv => (intro w' hw'; go_simp; exact rfl)); simp only [Act.put, List.setIfInBounds_toArray, List.set_cons_succ, List.set_cons_zero]; try simp only [wrap_zero]) | (apply wpM_pass; (case hw => rfl); simp only [Act.put, List.setIfInBounds_toArray, List.set_cons_succ, List.set_cons_zero]; try simp only [wrap_zero]))
          refine wpM_new _ rfl rfl (fun V v => Stable.pure) (fun V V' h => rfl) (fun w' hw' hK => ?_) (fun v hv => ?_)
          · unfold mildAt; go_simp; rw [mildUpon_enter]
            refine ⟨Below.refl _ _, (scmp_any (hx.ext (hE1.trans hw')) (ha.ext (hE1.trans hw')) rfl rfl).mono ?_⟩
            rintro e w2 ⟨rfl, hE2⟩
            exact ⟨_, rfl, hE2, rfl⟩
          obtain ⟨_, _, _, rfl⟩ := hv
          simp only [Act.put, List.setIfInBounds_toArray, List.set_cons_succ, List.set_cons_zero]
          repeat (first | (apply wpM_one; (case hg => rfl); (case hsp => rfl); (case hv => (intro w' hw'; go_simp; exact rfl)); simp only [Act.put, List.setIfInBounds_toArray, List.set_cons_succ, List.set_cons_zero]; try simp only [wrap_zero]) | (apply wpM_oneG; (case hw => rfl); (case hsp => rfl); (case hv => (intro w' hw'; go_simp; exact rfl)); simp only [Act.put, List.setIfInBounds_toArray, List.set_cons_succ, List.set_cons_zero]; try simp only [wrap_zero]) | (apply wpM_pass; (case hw => rfl); simp only [Act.put, List.setIfInBounds_toArray, List.set_cons_succ, List.set_cons_zero]; try simp only [wrap_zero]))
          try simp only [D1.out]
          repeat (first | (apply wpM_one; (case hg => rfl); (case hsp => rfl); (case hv => (intro w' hw'; go_simp; exact rfl)); simp only [Act.put, List.setIfInBounds_toArray, List.set_cons_succ, List.set_cons_zero]; try simp only [wrap_zero]) | (apply wpM_oneG; (case hw => rfl); (case hsp => rfl); (case hv => (intro w' hw'; go_simp; exact rfl)); simp only [Act.put, List.setIfInBounds_toArray, List.set_cons_succ, List.set_cons_zero]; try simp only [wrap_zero]) | (apply wpM_pass; (case hw => rfl); simp only [Act.put, List.setIfInBounds_toArray, List.set_cons_succ, List.set_cons_zero]; try simp only [wrap_zero]))
          refine wpM_newG _ rfl rfl (fun V v => Stable.pure) (fun V V' h => rfl) (fun w' hw' hK => ?_) (fun v hv => ?_)
          · unfold mildAt; go_simp; rw [mildUpon_enter]
            refine ⟨Below.refl _ _, (scmp_any (hx.ext (hE1.trans hw')) (hah.ext (hE1.trans hw')) rfl rfl).mono ?_⟩
            rintro e w2 ⟨rfl, hE2⟩
            exact ⟨_, rfl, hE2, rfl⟩
          obtain ⟨_, _, _, rfl⟩ := hv
          simp only [Act.put, List.setIfInBounds_toArray, List.set_cons_succ, List.set_cons_zero]
          repeat (first | (apply wpM_one; (case hg => rfl); (case hsp => rfl); (case hv => (intro w' hw'; go_simp; exact rfl)); simp only [Act.put, List.setIfInBounds_toArray, List.set_cons_succ, List.set_cons_zero]; try simp only [wrap_zero]) | (apply wpM_oneG; (case hw => rfl); (case hsp => rfl); (case hv => (intro w' hw'; go_simp; exact rfl)); simp only [Act.put, List.setIfInBounds_toArray, List.set_cons_succ, List.set_cons_zero]; try simp only [wrap_zero]) | (apply wpM_pass; (case hw => rfl); simp only [Act.put, List.setIfInBounds_toArray, List.set_cons_succ, List.set_cons_zero]; try simp only [wrap_zero]))
          apply wpM_nil
          apply hN
          intro w6 hE6 hK
          clear hK hN
          clear ea0 ea1 ea2 eb0 eb1 eb2
          go_wp2
          go_meet
          case rel => exact ⟨by first | rfl | (simp; done) | (simp; omega), hW.trans hE6⟩
        · have HP := Lib.hid (has_not (lo := a) h1)
          refine wp_region_mild 19 (fun i => match i with
            | 2 => some fun _ v w' => v = .bool false
            | 6 => some fun _ v w' => v = .int .i64 (cmpB xs a)
            | 15 => some fun _ v w' => v = .int .i64 (cmpB xs ah)
            | _ => none) (by kernel_rfl) (by kernel_rfl) (fun W N hW hN => ?_)
          have hE1 := hE.trans hW
          have ea0 : ∀ w', Ext W w' → w'.cell? ⟨w.heap.size, 0, none⟩ = some (.slice aA a.length ac) := fun w' h => cell_of_row _ _ _ _ _ _ ((hW.trans h).blk hy1)
          have ea1 : ∀ w', Ext W w' → w'.cell? ⟨w.heap.size, 1, none⟩ = some (.slice aB ah.length ad) := fun w' h => cell_of_row _ _ _ _ _ _ ((hW.trans h).blk hy1)
          have ea2 : ∀ w', Ext W w' → w'.cell? ⟨w.heap.size, 2, none⟩ = some (.bool false) := fun w' h => cell_of_row _ _ _ _ _ _ ((hW.trans h).blk hy1)
          have eb0 : ∀ w', Ext W w' → w'.cell? ⟨w.heap.size + 1, 0, none⟩ = some (.slice bA b.length bc) := fun w' h => cell_of_row _ _ _ _ _ _ ((hW.trans h).blk hy2)
          have eb1 : ∀ w', Ext W w' → w'.cell? ⟨w.heap.size + 1, 1, none⟩ = some (.slice bB bh.length bd) := fun w' h => cell_of_row _ _ _ _ _ _ ((hW.trans h).blk hy2)
          have eb2 : ∀ w', Ext W w' → w'.cell? ⟨w.heap.size + 1, 2, none⟩ = some (.bool bo) := fun w' h => cell_of_row _ _ _ _ _ _ ((hW.trans h).blk hy2)
          simp only [List.take_succ_cons, List.take_zero]
          repeat (first | (apply wpM_one; (case hg => rfl); (case hsp => rfl); (case hv => (intro w' hw'; go_simp; exact rfl)); simp only [Act.put, List.setIfInBounds_toArray, List.set_cons_succ, List.set_cons_zero]; try simp only [wrap_zero]) | (apply wpM_oneG; (case hw => rfl); (case hsp => rfl); (case hv => (intro w' hw'; go_simp; exact rfl)); simp only [Act.put, List.setIfInBounds_toArray, List.set_cons_succ, List.set_cons_zero]; try simp only [wrap_zero]) | (apply wpM_pass; (case hw => rfl); simp only [Act.put, List.setIfInBounds_toArray, List.set_cons_succ, List.set_cons_zero]; try simp only [wrap_zero]))
          refine wpM_new _ rfl rfl (fun V v => Stable.pure) (fun V V' h => rfl) (fun w' hw' hK => ?_) (fun v hv => ?_)
          · unfold mildAt; go_simp; rw [mildUpon_enter]
            refine ⟨Below.refl _ _, (has_any (ha.ext (hE1.trans hw')) (hah.ext (hE1.trans hw')) (hx.ext (hE1.trans hw')) rfl).mono ?_⟩
            rintro e w2 ⟨rfl, hE2⟩
            exact ⟨_, rfl, hE2, by rw [HP.out]⟩
          obtain ⟨_, _, _, rfl⟩ := hv
          simp only [Act.put, List.setIfInBounds_toArray, List.set_cons_succ, List.set_cons_zero]
          repeat (first | (apply wpM_one; (case hg => rfl); (case hsp => rfl); (case hv => (intro w' hw'; go_simp; exact rfl)); simp only [Act.put, List.setIfInBounds_toArray, List.set_cons_succ, List.set_cons_zero]; try simp only [wrap_zero]) | (apply wpM_oneG; (case hw => rfl); (case hsp => rfl); (case hv => (intro w' hw'; go_simp; exact rfl)); simp only [Act.put, List.setIfInBounds_toArray, List.set_cons_succ, List.set_cons_zero]; try simp only [wrap_zero]) | (apply wpM_pass; (case hw => rfl); simp only [Act.put, List.setIfInBounds_toArray, List.set_cons_succ, List.set_cons_zero]; try simp only [wrap_zero]))
          refine wpM_new _ rfl rfl (fun V v => Stable.pure) (fun V V' h => rfl) (fun w' hw' hK => ?_) (fun v hv => ?_)
          · unfold mildAt; go_simp; rw [mildUpon_enter]
            refine ⟨Below.refl _ _, (scmp_any (hx.ext (hE1.trans hw')) (ha.ext (hE1.trans hw')) rfl rfl).mono ?_⟩
            rintro e w2 ⟨rfl, hE2⟩
            exact ⟨_, rfl, hE2, rfl⟩
          obtain ⟨_, _, _, rfl⟩ := hv
          simp only [Act.put, List.setIfInBounds_toArray, List.set_cons_succ, List.set_cons_zero]
          repeat (first | (apply wpM_one; (case hg => rfl); (case hsp => rfl); (case hv => (intro w' hw'; go_simp; exact rfl)); simp only [Act.put, List.setIfInBounds_toArray, List.set_cons_succ, List.set_cons_zero]; try simp only [wrap_zero]) | (apply wpM_oneG; (case hw => rfl); (case hsp => rfl); (case hv => (intro w' hw'; go_simp; exact rfl)); simp only [Act.put, List.setIfInBounds_toArray, List.set_cons_succ, List.set_cons_zero]; try simp only [wrap_zero]) | (apply wpM_pass; (case hw => rfl); simp only [Act.put, List.setIfInBounds_toArray, List.set_cons_succ, List.set_cons_zero]; try simp only [wrap_zero]))
          try simp only [D1.out]
          repeat (first | (apply wpM_one; (case hg => rfl); (case hsp => rfl); (case hv => (intro w' hw'; go_simp; exact rfl)); simp only [Act.put, List.setIfInBounds_toArray, List.set_cons_succ, List.set_cons_zero]; try simp only [wrap_zero]) | (apply wpM_oneG; (case hw => rfl); (case hsp => rfl); (case hv => (intro w' hw'; go_simp; exact rfl)); simp only [Act.put, List.setIfInBounds_toArray, List.set_cons_succ, List.set_cons_zero]; try simp only [wrap_zero]) | (apply wpM_pass; (case hw => rfl); simp only [Act.put, List.setIfInBounds_toArray, List.set_cons_succ, List.set_cons_zero]; try simp only [wrap_zero]))
          refine wpM_newG _ rfl rfl (fun V v => Stable.pure) (fun V V' h => rfl) (fun w' hw' hK => ?_) (fun v hv => ?_)
          · unfold mildAt; go_simp; rw [mildUpon_enter]
            refine ⟨Below.refl _ _, (scmp_any (hx.ext (hE1.trans hw')) (hah.ext (hE1.trans hw')) rfl rfl).mono ?_⟩
            rintro e w2 ⟨rfl, hE2⟩
            exact ⟨_, rfl, hE2, rfl⟩
          obtain ⟨_, _, _, rfl⟩ := hv
          simp only [Act.put, List.setIfInBounds_toArray, List.set_cons_succ, List.set_cons_zero]
          repeat (first | (apply wpM_one; (case hg => rfl); (case hsp => rfl); (case hv => (intro w' hw'; go_simp; exact rfl)); simp only [Act.put, List.setIfInBounds_toArray, List.set_cons_succ, List.set_cons_zero]; try simp only [wrap_zero]) | (apply wpM_oneG; (case hw => rfl); (case hsp => rfl); (case hv => (intro w' hw'; go_simp; exact rfl)); simp only [Act.put, List.setIfInBounds_toArray, List.set_cons_succ, List.set_cons_zero]; try simp only [wrap_zero]) | (apply wpM_pass; (case hw => rfl); simp only [Act.put, List.setIfInBounds_toArray, List.set_cons_succ, List.set_cons_zero]; try simp only [wrap_zero]))
          apply wpM_nil
          apply hN
          intro w6 hE6 hK
          clear hK hN
          clear ea0 ea1 ea2 eb0 eb1 eb2
          go_wp2
          go_meet
          case rel => exact ⟨by first | rfl | (simp; done) | (simp; omega), hW.trans hE6⟩
      · have HP := Lib.hid (has_op (hi := ah) HK.out h0)
        refine wp_region_mild 19 (fun i => match i with
          | 2 => some fun _ v w' => v = .bool true
          | 6 => some fun _ v w' => v = .int .i64 (cmpB xs a)
          | _ => none) (by kernel_rfl) (by kernel_rfl) (fun W N hW hN => ?_)
        have hE1 := hE.trans hW
        have ea0 : ∀ w', Ext W w' → w'.cell? ⟨w.heap.size, 0, none⟩ = some (.slice aA a.length ac) := fun w' h => cell_of_row _ _ _ _ _ _ ((hW.trans h).blk hy1)
        have ea1 : ∀ w', Ext W w' → w'.cell? ⟨w.heap.size, 1, none⟩ = some (.slice aB ah.length ad) := fun w' h => cell_of_row _ _ _ _ _ _ ((hW.trans h).blk hy1)
        have ea2 : ∀ w', Ext W w' → w'.cell? ⟨w.heap.size, 2, none⟩ = some (.bool true) := fun w' h => cell_of_row _ _ _ _ _ _ ((hW.trans h).blk hy1)
        have eb0 : ∀ w', Ext W w' → w'.cell? ⟨w.heap.size + 1, 0, none⟩ = some (.slice bA b.length bc) := fun w' h => cell_of_row _ _ _ _ _ _ ((hW.trans h).blk hy2)
        have eb1 : ∀ w', Ext W w' → w'.cell? ⟨w.heap.size + 1, 1, none⟩ = some (.slice bB bh.length bd) := fun w' h => cell_of_row _ _ _ _ _ _ ((hW.trans h).blk hy2)
        have eb2 : ∀ w', Ext W w' → w'.cell? ⟨w.heap.size + 1, 2, none⟩ = some (.bool bo) := fun w' h => cell_of_row _ _ _ _ _ _ ((hW.trans h).blk hy2)
        simp only [List.take_succ_cons, List.take_zero]
        repeat (first | (apply wpM_one; (case hg => rfl); (case hsp => rfl); (case hv => (intro w' hw'; go_simp; exact rfl)); simp only [Act.put, List.setIfInBounds_toArray, List.set_cons_succ, List.set_cons_zero]; try simp only [wrap_zero]) | (apply wpM_oneG; (case hw => rfl); (case hsp => rfl); (case hv => (intro w' hw'; go_simp; exact rfl)); simp only [Act.put, List.setIfInBounds_toArray, List.set_cons_succ, List.set_cons_zero]; try simp only [wrap_zero]) | (apply wpM_pass; (case hw => rfl); simp only [Act.put, List.setIfInBounds_toArray, List.set_cons_succ, List.set_cons_zero]; try simp only [wrap_zero]))
        refine wpM_new _ rfl rfl (fun V v => Stable.pure) (fun V V' h => rfl) (fun w' hw' hK => ?_) (fun v hv => ?_)
        · unfold mildAt; go_simp; rw [mildUpon_enter]
          refine ⟨Below.refl _ _, (has_any (ha.ext (hE1.trans hw')) (hah.ext (hE1.trans hw')) (hx.ext (hE1.trans hw')) rfl).mono ?_⟩
          rintro e w2 ⟨rfl, hE2⟩
          exact ⟨_, rfl, hE2, by rw [HP.out]⟩
        obtain ⟨_, _, _, rfl⟩ := hv
        simp only [Act.put, List.setIfInBounds_toArray, List.set_cons_succ, List.set_cons_zero]
        repeat (first | (apply wpM_one; (case hg => rfl); (case hsp => rfl); (case hv => (intro w' hw'; go_simp; exact rfl)); simp only [Act.put, List.setIfInBounds_toArray, List.set_cons_succ, List.set_cons_zero]; try simp only [wrap_zero]) | (apply wpM_oneG; (case hw => rfl); (case hsp => rfl); (case hv => (intro w' hw'; go_simp; exact rfl)); simp only [Act.put, List.setIfInBounds_toArray, List.set_cons_succ, List.set_cons_zero]; try simp only [wrap_zero]) | (apply wpM_pass; (case hw => rfl); simp only [Act.put, List.setIfInBounds_toArray, List.set_cons_succ, List.set_cons_zero]; try simp only [wrap_zero]))
        refine wpM_new _ rfl rfl (fun V v => Stable.pure) (fun V V' h => rfl) (fun w' hw' hK => ?_) (fun v hv => ?_)
        · unfold mildAt; go_simp; rw [mildUpon_enter]
          refine ⟨Below.refl _ _, (scmp_any (hx.ext (hE1.trans hw')) (ha.ext (hE1.trans hw')) rfl rfl).mono ?_⟩
          rintro e w2 ⟨rfl, hE2⟩
          exact ⟨_, rfl, hE2, rfl⟩
        obtain ⟨_, _, _, rfl⟩ := hv
        simp only [Act.put, List.setIfInBounds_toArray, List.set_cons_succ, List.set_cons_zero]
        repeat (first | (apply wpM_one; (case hg => rfl); (case hsp => rfl); (case hv => (intro w' hw'; go_simp; exact rfl)); simp only [Act.put, List.setIfInBounds_toArray, List.set_cons_succ, List.set_cons_zero]; try simp only [wrap_zero]) | (apply wpM_oneG; (case hw => rfl); (case hsp => rfl); (case hv => (intro w' hw'; go_simp; exact rfl)); simp only [Act.put, List.setIfInBounds_toArray, List.set_cons_succ, List.set_cons_zero]; try simp only [wrap_zero]) | (apply wpM_pass; (case hw => rfl); simp only [Act.put, List.setIfInBounds_toArray, List.set_cons_succ, List.set_cons_zero]; try simp only [wrap_zero]))
        try simp only [D1.out]
        repeat (first | (apply wpM_one; (case hg => rfl); (case hsp => rfl); (case hv => (intro w' hw'; go_simp; exact rfl)); simp only [Act.put, List.setIfInBounds_toArray, List.set_cons_succ, List.set_cons_zero]; try simp only [wrap_zero]) | (apply wpM_oneG; (case hw => rfl); (case hsp => rfl); (case hv => (intro w' hw'; go_simp; exact rfl)); simp only [Act.put, List.setIfInBounds_toArray, List.set_cons_succ, List.set_cons_zero]; try simp only [wrap_zero]) | (apply wpM_pass; (case hw => rfl); simp only [Act.put, List.setIfInBounds_toArray, List.set_cons_succ, List.set_cons_zero]; try simp only [wrap_zero]))
        apply wpM_nil
        apply hN
        intro w6 hE6 hK
        clear hK hN
        clear ea0 ea1 ea2 eb0 eb1 eb2
        go_wp2
        go_meet
        case rel => exact ⟨by first | rfl | (simp; done) | (simp; omega), hW.trans hE6⟩
  case' rest =>
    obtain ⟨rfl, hE6⟩ := hcut
    have hy1 := hE6.blk hy1
    have hy2 := hE6.blk hy2
    have hE := hE.trans hE6
    clear hE6
    have ga0 : wc.cell? ⟨w.heap.size, 0, none⟩ = some (.slice aA a.length ac) := cell_of_row _ _ _ _ _ _ hy1
    have ga1 : wc.cell? ⟨w.heap.size, 1, none⟩ = some (.slice aB ah.length ad) := cell_of_row _ _ _ _ _ _ hy1
    have ga2 : wc.cell? ⟨w.heap.size, 2, none⟩ = some (.bool ao) := cell_of_row _ _ _ _ _ _ hy1
    have gb0 : wc.cell? ⟨w.heap.size + 1, 0, none⟩ = some (.slice bA b.length bc) := cell_of_row _ _ _ _ _ _ hy2
    have gb1 : wc.cell? ⟨w.heap.size + 1, 1, none⟩ = some (.slice bB bh.length bd) := cell_of_row _ _ _ _ _ _ hy2
    have gb2 : wc.cell? ⟨w.heap.size + 1, 2, none⟩ = some (.bool bo) := cell_of_row _ _ _ _ _ _ hy2
    go_wp2
    clear ga0 ga1 ga2 gb0 gb1 gb2
    go_cut [63] from 10 (fun s wx => s = .bool false ∧ Ext wc wx)
  case first =>
    have hu := has_meet ⟨a, ah, ao⟩ ⟨b, bh, bo⟩ xs
    rw [HP.out, HQ.out] at hu
    cases p
    · have HU := Lib.hid (show hasB (meetB ⟨a, ah, ao⟩ ⟨b, bh, bo⟩) xs = false by rw [hu]; rfl)
      clear hu
      refine wp_region_mild 13 (fun i => match i with
        | 2 => some fun _ v w' => ∃ A c B d, v = .agg #[.slice A (meetB ⟨a, ah, ao⟩ ⟨b, bh, bo⟩).lo.length c, .slice B (meetB ⟨a, ah, ao⟩ ⟨b, bh, bo⟩).hi.length d, .bool (meetB ⟨a, ah, ao⟩ ⟨b, bh, bo⟩).op] ∧ Sl w' A c (meetB ⟨a, ah, ao⟩ ⟨b, bh, bo⟩).lo ∧ Sl w' B d (meetB ⟨a, ah, ao⟩ ⟨b, bh, bo⟩).hi
        | 4 => some fun _ v w' => v = .bool false
        | 7 => some fun _ v w' => v = .bool false
        | _ => none) (by kernel_rfl) (by kernel_rfl) (fun W N hW hN => ?_)
      have hE1 := hE.trans hW
      have ea0 : ∀ w', Ext W w' → w'.cell? ⟨w.heap.size, 0, none⟩ = some (.slice aA a.length ac) := fun w' h => cell_of_row _ _ _ _ _ _ ((hW.trans h).blk hy1)
      have ea1 : ∀ w', Ext W w' → w'.cell? ⟨w.heap.size, 1, none⟩ = some (.slice aB ah.length ad) := fun w' h => cell_of_row _ _ _ _ _ _ ((hW.trans h).blk hy1)
      have ea2 : ∀ w', Ext W w' → w'.cell? ⟨w.heap.size, 2, none⟩ = some (.bool ao) := fun w' h => cell_of_row _ _ _ _ _ _ ((hW.trans h).blk hy1)
      have eb0 : ∀ w', Ext W w' → w'.cell? ⟨w.heap.size + 1, 0, none⟩ = some (.slice bA b.length bc) := fun w' h => cell_of_row _ _ _ _ _ _ ((hW.trans h).blk hy2)
      have eb1 : ∀ w', Ext W w' → w'.cell? ⟨w.heap.size + 1, 1, none⟩ = some (.slice bB bh.length bd) := fun w' h => cell_of_row _ _ _ _ _ _ ((hW.trans h).blk hy2)
      have eb2 : ∀ w', Ext W w' → w'.cell? ⟨w.heap.size + 1, 2, none⟩ = some (.bool bo) := fun w' h => cell_of_row _ _ _ _ _ _ ((hW.trans h).blk hy2)
      simp only [List.take_succ_cons, List.take_zero]
      repeat (first | (apply wpM_one; (case hg => rfl); (case hsp => rfl); (case hv => (intro w' hw'; go_simp; exact rfl)); simp only [Act.put, List.setIfInBounds_toArray, List.set_cons_succ, List.set_cons_zero]; try simp only [wrap_zero]) | (apply wpM_oneG; (case hw => rfl); (case hsp => rfl); (case hv => (intro w' hw'; go_simp; exact rfl)); simp only [Act.put, List.setIfInBounds_toArray, List.set_cons_succ, List.set_cons_zero]; try simp only [wrap_zero]) | (apply wpM_pass; (case hw => rfl); simp only [Act.put, List.setIfInBounds_toArray, List.set_cons_succ, List.set_cons_zero]; try simp only [wrap_zero]))
      refine wpM_new _ rfl rfl (fun V v => stable_two v) (fun V V' h => rfl) (fun w' hw' hK => ?_) (fun v hv => ?_)
      · unfold mildAt; go_simp; rw [mildUpon_enter]
        refine ⟨Below.refl _ _, (meet_any (ha.ext (hE1.trans hw')) (hah.ext (hE1.trans hw')) (hb.ext (hE1.trans hw')) (hbh.ext (hE1.trans hw'))).mono ?_⟩
        rintro e w2 ⟨A, c, B, d, r, rfl, rfl, ho1, ho2, hE2⟩
        exact ⟨_, rfl, hE2, A, c, B, d, rfl, ho1.sl HM.out.1, ho2.sl HM.out.2⟩
      obtain ⟨_, _, _, A3, c3, B3, d3, rfl, _, _⟩ := hv
      simp only [Act.put, List.setIfInBounds_toArray, List.set_cons_succ, List.set_cons_zero]
      repeat (first | (apply wpM_one; (case hg => rfl); (case hsp => rfl); (case hv => (intro w' hw'; go_simp; exact rfl)); simp only [Act.put, List.setIfInBounds_toArray, List.set_cons_succ, List.set_cons_zero]; try simp only [wrap_zero]) | (apply wpM_oneG; (case hw => rfl); (case hsp => rfl); (case hv => (intro w' hw'; go_simp; exact rfl)); simp only [Act.put, List.setIfInBounds_toArray, List.set_cons_succ, List.set_cons_zero]; try simp only [wrap_zero]) | (apply wpM_pass; (case hw => rfl); simp only [Act.put, List.setIfInBounds_toArray, List.set_cons_succ, List.set_cons_zero]; try simp only [wrap_zero]))
      refine wpM_new _ rfl rfl (fun V v => Stable.pure) (fun V V' h => rfl) (fun w' hw' hK => ?_) (fun v hv => ?_)
      · obtain ⟨A4, c4, B4, d4, e4, s1, s2⟩ := (hK 2 (by kernel_rfl)).2
        injection e4 with e4
        injection e4 with e4
        injection e4 with x1 e4
        injection e4 with x2 e4
        injection x1 with y1 y2 y3
        injection x2 with y4 y5 y6
        subst y1 y3 y4 y6
        clear hK
        unfold mildAt; go_simp; rw [mildUpon_enter]
        refine ⟨Below.refl _ _, (has_any s1 s2 (hx.ext (hE1.trans hw')) rfl).mono ?_⟩
        rintro e w2 ⟨rfl, hE2⟩
        exact ⟨_, rfl, hE2, by rw [HU.out]⟩
      obtain ⟨_, _, _, rfl⟩ := hv
      simp only [Act.put, List.setIfInBounds_toArray, List.set_cons_succ, List.set_cons_zero]
      repeat (first | (apply wpM_one; (case hg => rfl); (case hsp => rfl); (case hv => (intro w' hw'; go_simp; exact rfl)); simp only [Act.put, List.setIfInBounds_toArray, List.set_cons_succ, List.set_cons_zero]; try simp only [wrap_zero]) | (apply wpM_oneG; (case hw => rfl); (case hsp => rfl); (case hv => (intro w' hw'; go_simp; exact rfl)); simp only [Act.put, List.setIfInBounds_toArray, List.set_cons_succ, List.set_cons_zero]; try simp only [wrap_zero]) | (apply wpM_pass; (case hw => rfl); simp only [Act.put, List.setIfInBounds_toArray, List.set_cons_succ, List.set_cons_zero]; try simp only [wrap_zero]))
      refine wpM_new _ rfl rfl (fun V v => Stable.pure) (fun V V' h => rfl) (fun w' hw' hK => ?_) (fun v hv => ?_)
      · unfold mildAt; go_simp; rw [mildUpon_enter]
        refine ⟨Below.refl _ _, (has_any (ha.ext (hE1.trans hw')) (hah.ext (hE1.trans hw')) (hx.ext (hE1.trans hw')) rfl).mono ?_⟩
        rintro e w2 ⟨rfl, hE2⟩
        exact ⟨_, rfl, hE2, by rw [HP.out]⟩
      obtain ⟨_, _, _, rfl⟩ := hv
      simp only [Act.put, List.setIfInBounds_toArray, List.set_cons_succ, List.set_cons_zero]
      repeat (first | (apply wpM_one; (case hg => rfl); (case hsp => rfl); (case hv => (intro w' hw'; go_simp; exact rfl)); simp only [Act.put, List.setIfInBounds_toArray, List.set_cons_succ, List.set_cons_zero]; try simp only [wrap_zero]) | (apply wpM_oneG; (case hw => rfl); (case hsp => rfl); (case hv => (intro w' hw'; go_simp; exact rfl)); simp only [Act.put, List.setIfInBounds_toArray, List.set_cons_succ, List.set_cons_zero]; try simp only [wrap_zero]) | (apply wpM_pass; (case hw => rfl); simp only [Act.put, List.setIfInBounds_toArray, List.set_cons_succ, List.set_cons_zero]; try simp only [wrap_zero]))
      apply wpM_nil
      apply hN
      intro w6 hE6 hK
      clear hK hN
      clear ea0 ea1 ea2 eb0 eb1 eb2
      go_wp2
      go_meet
      case rel => exact ⟨rfl, hW.trans hE6⟩
    · cases q
      · have HU := Lib.hid (show hasB (meetB ⟨a, ah, ao⟩ ⟨b, bh, bo⟩) xs = false by rw [hu]; rfl)
        clear hu
        refine wp_region_mild 13 (fun i => match i with
          | 2 => some fun _ v w' => ∃ A c B d, v = .agg #[.slice A (meetB ⟨a, ah, ao⟩ ⟨b, bh, bo⟩).lo.length c, .slice B (meetB ⟨a, ah, ao⟩ ⟨b, bh, bo⟩).hi.length d, .bool (meetB ⟨a, ah, ao⟩ ⟨b, bh, bo⟩).op] ∧ Sl w' A c (meetB ⟨a, ah, ao⟩ ⟨b, bh, bo⟩).lo ∧ Sl w' B d (meetB ⟨a, ah, ao⟩ ⟨b, bh, bo⟩).hi
          | 4 => some fun _ v w' => v = .bool false
          | 7 => some fun _ v w' => v = .bool true
          | 11 => some fun _ v w' => v = .bool false
          | _ => none) (by kernel_rfl) (by kernel_rfl) (fun W N hW hN => ?_)
        have hE1 := hE.trans hW
        have ea0 : ∀ w', Ext W w' → w'.cell? ⟨w.heap.size, 0, none⟩ = some (.slice aA a.length ac) := fun w' h => cell_of_row _ _ _ _ _ _ ((hW.trans h).blk hy1)
        have ea1 : ∀ w', Ext W w' → w'.cell? ⟨w.heap.size, 1, none⟩ = some (.slice aB ah.length ad) := fun w' h => cell_of_row _ _ _ _ _ _ ((hW.trans h).blk hy1)
        have ea2 : ∀ w', Ext W w' → w'.cell? ⟨w.heap.size, 2, none⟩ = some (.bool ao) := fun w' h => cell_of_row _ _ _ _ _ _ ((hW.trans h).blk hy1)
        have eb0 : ∀ w', Ext W w' → w'.cell? ⟨w.heap.size + 1, 0, none⟩ = some (.slice bA b.length bc) := fun w' h => cell_of_row _ _ _ _ _ _ ((hW.trans h).blk hy2)
        have eb1 : ∀ w', Ext W w' → w'.cell? ⟨w.heap.size + 1, 1, none⟩ = some (.slice bB bh.length bd) := fun w' h => cell_of_row _ _ _ _ _ _ ((hW.trans h).blk hy2)
        have eb2 : ∀ w', Ext W w' → w'.cell? ⟨w.heap.size + 1, 2, none⟩ = some (.bool bo) := fun w' h => cell_of_row _ _ _ _ _ _ ((hW.trans h).blk hy2)
        simp only [List.take_succ_cons, List.take_zero]
        repeat (first | (apply wpM_one; (case hg => rfl); (case hsp => rfl); (case hv => (intro w' hw'; go_simp; exact rfl)); simp only [Act.put, List.setIfInBounds_toArray, List.set_cons_succ, List.set_cons_zero]; try simp only [wrap_zero]) | (apply wpM_oneG; (case hw => rfl); (case hsp => rfl); (case hv => (intro w' hw'; go_simp; exact rfl)); simp only [Act.put, List.setIfInBounds_toArray, List.set_cons_succ, List.set_cons_zero]; try simp only [wrap_zero]) | (apply wpM_pass; (case hw => rfl); simp only [Act.put, List.setIfInBounds_toArray, List.set_cons_succ, List.set_cons_zero]; try simp only [wrap_zero]))
        refine wpM_new _ rfl rfl (fun V v => stable_two v) (fun V V' h => rfl) (fun w' hw' hK => ?_) (fun v hv => ?_)
        · unfold mildAt; go_simp; rw [mildUpon_enter]
          refine ⟨Below.refl _ _, (meet_any (ha.ext (hE1.trans hw')) (hah.ext (hE1.trans hw')) (hb.ext (hE1.trans hw')) (hbh.ext (hE1.trans hw'))).mono ?_⟩
          rintro e w2 ⟨A, c, B, d, r, rfl, rfl, ho1, ho2, hE2⟩
          exact ⟨_, rfl, hE2, A, c, B, d, rfl, ho1.sl HM.out.1, ho2.sl HM.out.2⟩
        obtain ⟨_, _, _, A3, c3, B3, d3, rfl, _, _⟩ := hv
        simp only [Act.put, List.setIfInBounds_toArray, List.set_cons_succ, List.set_cons_zero]
        repeat (first | (apply wpM_one; (case hg => rfl); (case hsp => rfl); (case hv => (intro w' hw'; go_simp; exact rfl)); simp only [Act.put, List.setIfInBounds_toArray, List.set_cons_succ, List.set_cons_zero]; try simp only [wrap_zero]) | (apply wpM_oneG; (case hw => rfl); (case hsp => rfl); (case hv => (intro w' hw'; go_simp; exact rfl)); simp only [Act.put, List.setIfInBounds_toArray, List.set_cons_succ, List.set_cons_zero]; try simp only [wrap_zero]) | (apply wpM_pass; (case hw => rfl); simp only [Act.put, List.setIfInBounds_toArray, List.set_cons_succ, List.set_cons_zero]; try simp only [wrap_zero]))
        refine wpM_new _ rfl rfl (fun V v => Stable.pure) (fun V V' h => rfl) (fun w' hw' hK => ?_) (fun v hv => ?_)
        · obtain ⟨A4, c4, B4, d4, e4, s1, s2⟩ := (hK 2 (by kernel_rfl)).2
          injection e4 with e4
          injection e4 with e4
          injection e4 with x1 e4
          injection e4 with x2 e4
          injection x1 with y1 y2 y3
          injection x2 with y4 y5 y6
          subst y1 y3 y4 y6
          clear hK
          unfold mildAt; go_simp; rw [mildUpon_enter]
          refine ⟨Below.refl _ _, (has_any s1 s2 (hx.ext (hE1.trans hw')) rfl).mono ?_⟩
          rintro e w2 ⟨rfl, hE2⟩
          exact ⟨_, rfl, hE2, by rw [HU.out]⟩
        obtain ⟨_, _, _, rfl⟩ := hv
        simp only [Act.put, List.setIfInBounds_toArray, List.set_cons_succ, List.set_cons_zero]
        repeat (first | (apply wpM_one; (case hg => rfl); (case hsp => rfl); (case hv => (intro w' hw'; go_simp; exact rfl)); simp only [Act.put, List.setIfInBounds_toArray, List.set_cons_succ, List.set_cons_zero]; try simp only [wrap_zero]) | (apply wpM_oneG; (case hw => rfl); (case hsp => rfl); (case hv => (intro w' hw'; go_simp; exact rfl)); simp only [Act.put, List.setIfInBounds_toArray, List.set_cons_succ, List.set_cons_zero]; try simp only [wrap_zero]) | (apply wpM_pass; (case hw => rfl); simp only [Act.put, List.setIfInBounds_toArray, List.set_cons_succ, List.set_cons_zero]; try simp only [wrap_zero]))
        refine wpM_new _ rfl rfl (fun V v => Stable.pure) (fun V V' h => rfl) (fun w' hw' hK => ?_) (fun v hv => ?_)
        · unfold mildAt; go_simp; rw [mildUpon_enter]
          refine ⟨Below.refl _ _, (has_any (ha.ext (hE1.trans hw')) (hah.ext (hE1.trans hw')) (hx.ext (hE1.trans hw')) rfl).mono ?_⟩
          rintro e w2 ⟨rfl, hE2⟩
          exact ⟨_, rfl, hE2, by rw [HP.out]⟩
        obtain ⟨_, _, _, rfl⟩ := hv
        simp only [Act.put, List.setIfInBounds_toArray, List.set_cons_succ, List.set_cons_zero]
        repeat (first | (apply wpM_one; (case hg => rfl); (case hsp => rfl); (case hv => (intro w' hw'; go_simp; exact rfl)); simp only [Act.put, List.setIfInBounds_toArray, List.set_cons_succ, List.set_cons_zero]; try simp only [wrap_zero]) | (apply wpM_oneG; (case hw => rfl); (case hsp => rfl); (case hv => (intro w' hw'; go_simp; exact rfl)); simp only [Act.put, List.setIfInBounds_toArray, List.set_cons_succ, List.set_cons_zero]; try simp only [wrap_zero]) | (apply wpM_pass; (case hw => rfl); simp only [Act.put, List.setIfInBounds_toArray, List.set_cons_succ, List.set_cons_zero]; try simp only [wrap_zero]))
        refine wpM_newG _ rfl rfl (fun V v => Stable.pure) (fun V V' h => rfl) (fun w' hw' hK => ?_) (fun v hv => ?_)
        · unfold mildAt; go_simp; rw [mildUpon_enter]
          refine ⟨Below.refl _ _, (has_any (hb.ext (hE1.trans hw')) (hbh.ext (hE1.trans hw')) (hx.ext (hE1.trans hw')) rfl).mono ?_⟩
          rintro e w2 ⟨rfl, hE2⟩
          exact ⟨_, rfl, hE2, by rw [HQ.out]⟩
        obtain ⟨_, _, _, rfl⟩ := hv
        simp only [Act.put, List.setIfInBounds_toArray, List.set_cons_succ, List.set_cons_zero]
        repeat (first | (apply wpM_one; (case hg => rfl); (case hsp => rfl); (case hv => (intro w' hw'; go_simp; exact rfl)); simp only [Act.put, List.setIfInBounds_toArray, List.set_cons_succ, List.set_cons_zero]; try simp only [wrap_zero]) | (apply wpM_oneG; (case hw => rfl); (case hsp => rfl); (case hv => (intro w' hw'; go_simp; exact rfl)); simp only [Act.put, List.setIfInBounds_toArray, List.set_cons_succ, List.set_cons_zero]; try simp only [wrap_zero]) | (apply wpM_pass; (case hw => rfl); simp only [Act.put, List.setIfInBounds_toArray, List.set_cons_succ, List.set_cons_zero]; try simp only [wrap_zero]))
        apply wpM_nil
        apply hN
        intro w6 hE6 hK
        clear hK hN
        clear ea0 ea1 ea2 eb0 eb1 eb2
        go_wp2
        go_meet
        case rel => exact ⟨rfl, hW.trans hE6⟩
      · have HU := Lib.hid (show hasB (meetB ⟨a, ah, ao⟩ ⟨b, bh, bo⟩) xs = true by rw [hu]; rfl)
        clear hu
        refine wp_region_mild 13 (fun i => match i with
          | 2 => some fun _ v w' => ∃ A c B d, v = .agg #[.slice A (meetB ⟨a, ah, ao⟩ ⟨b, bh, bo⟩).lo.length c, .slice B (meetB ⟨a, ah, ao⟩ ⟨b, bh, bo⟩).hi.length d, .bool (meetB ⟨a, ah, ao⟩ ⟨b, bh, bo⟩).op] ∧ Sl w' A c (meetB ⟨a, ah, ao⟩ ⟨b, bh, bo⟩).lo ∧ Sl w' B d (meetB ⟨a, ah, ao⟩ ⟨b, bh, bo⟩).hi
          | 4 => some fun _ v w' => v = .bool true
          | 7 => some fun _ v w' => v = .bool true
          | 11 => some fun _ v w' => v = .bool true
          | _ => none) (by kernel_rfl) (by kernel_rfl) (fun W N hW hN => ?_)
        have hE1 := hE.trans hW
        have ea0 : ∀ w', Ext W w' → w'.cell? ⟨w.heap.size, 0, none⟩ = some (.slice aA a.length ac) := fun w' h => cell_of_row _ _ _ _ _ _ ((hW.trans h).blk hy1)
        have ea1 : ∀ w', Ext W w' → w'.cell? ⟨w.heap.size, 1, none⟩ = some (.slice aB ah.length ad) := fun w' h => cell_of_row _ _ _ _ _ _ ((hW.trans h).blk hy1)
        have ea2 : ∀ w', Ext W w' → w'.cell? ⟨w.heap.size, 2, none⟩ = some (.bool ao) := fun w' h => cell_of_row _ _ _ _ _ _ ((hW.trans h).blk hy1)
        have eb0 : ∀ w', Ext W w' → w'.cell? ⟨w.heap.size + 1, 0, none⟩ = some (.slice bA b.length bc) := fun w' h => cell_of_row _ _ _ _ _ _ ((hW.trans h).blk hy2)
        have eb1 : ∀ w', Ext W w' → w'.cell? ⟨w.heap.size + 1, 1, none⟩ = some (.slice bB bh.length bd) := fun w' h => cell_of_row _ _ _ _ _ _ ((hW.trans h).blk hy2)
        have eb2 : ∀ w', Ext W w' → w'.cell? ⟨w.heap.size + 1, 2, none⟩ = some (.bool bo) := fun w' h => cell_of_row _ _ _ _ _ _ ((hW.trans h).blk hy2)
        simp only [List.take_succ_cons, List.take_zero]
        repeat (first | (apply wpM_one; (case hg => rfl); (case hsp => rfl); (case hv => (intro w' hw'; go_simp; exact rfl)); simp only [Act.put, List.setIfInBounds_toArray, List.set_cons_succ, List.set_cons_zero]; try simp only [wrap_zero]) | (apply wpM_oneG; (case hw => rfl); (case hsp => rfl); (case hv => (intro w' hw'; go_simp; exact rfl)); simp only [Act.put, List.setIfInBounds_toArray, List.set_cons_succ, List.set_cons_zero]; try simp only [wrap_zero]) | (apply wpM_pass; (case hw => rfl); simp only [Act.put, List.setIfInBounds_toArray, List.set_cons_succ, List.set_cons_zero]; try simp only [wrap_zero]))
        refine wpM_new _ rfl rfl (fun V v => stable_two v) (fun V V' h => rfl) (fun w' hw' hK => ?_) (fun v hv => ?_)
        · unfold mildAt; go_simp; rw [mildUpon_enter]
          refine ⟨Below.refl _ _, (meet_any (ha.ext (hE1.trans hw')) (hah.ext (hE1.trans hw')) (hb.ext (hE1.trans hw')) (hbh.ext (hE1.trans hw'))).mono ?_⟩
          rintro e w2 ⟨A, c, B, d, r, rfl, rfl, ho1, ho2, hE2⟩
          exact ⟨_, rfl, hE2, A, c, B, d, rfl, ho1.sl HM.out.1, ho2.sl HM.out.2⟩
        obtain ⟨_, _, _, A3, c3, B3, d3, rfl, _, _⟩ := hv
        simp only [Act.put, List.setIfInBounds_toArray, List.set_cons_succ, List.set_cons_zero]
        repeat (first | (apply wpM_one; (case hg => rfl); (case hsp => rfl); (case hv => (intro w' hw'; go_simp; exact rfl)); simp only [Act.put, List.setIfInBounds_toArray, List.set_cons_succ, List.set_cons_zero]; try simp only [wrap_zero]) | (apply wpM_oneG; (case hw => rfl); (case hsp => rfl); (case hv => (intro w' hw'; go_simp; exact rfl)); simp only [Act.put, List.setIfInBounds_toArray, List.set_cons_succ, List.set_cons_zero]; try simp only [wrap_zero]) | (apply wpM_pass; (case hw => rfl); simp only [Act.put, List.setIfInBounds_toArray, List.set_cons_succ, List.set_cons_zero]; try simp only [wrap_zero]))
        refine wpM_new _ rfl rfl (fun V v => Stable.pure) (fun V V' h => rfl) (fun w' hw' hK => ?_) (fun v hv => ?_)
        · obtain ⟨A4, c4, B4, d4, e4, s1, s2⟩ := (hK 2 (by kernel_rfl)).2
          injection e4 with e4
          injection e4 with e4
          injection e4 with x1 e4
          injection e4 with x2 e4
          injection x1 with y1 y2 y3
          injection x2 with y4 y5 y6
          subst y1 y3 y4 y6
          clear hK
          unfold mildAt; go_simp; rw [mildUpon_enter]
          refine ⟨Below.refl _ _, (has_any s1 s2 (hx.ext (hE1.trans hw')) rfl).mono ?_⟩
          rintro e w2 ⟨rfl, hE2⟩
          exact ⟨_, rfl, hE2, by rw [HU.out]⟩
        obtain ⟨_, _, _, rfl⟩ := hv
        simp only [Act.put, List.setIfInBounds_toArray, List.set_cons_succ, List.set_cons_zero]
        repeat (first | (apply wpM_one; (case hg => rfl); (case hsp => rfl); (case hv => (intro w' hw'; go_simp; exact rfl)); simp only [Act.put, List.setIfInBounds_toArray, List.set_cons_succ, List.set_cons_zero]; try simp only [wrap_zero]) | (apply wpM_oneG; (case hw => rfl); (case hsp => rfl); (case hv => (intro w' hw'; go_simp; exact rfl)); simp only [Act.put, List.setIfInBounds_toArray, List.set_cons_succ, List.set_cons_zero]; try simp only [wrap_zero]) | (apply wpM_pass; (case hw => rfl); simp only [Act.put, List.setIfInBounds_toArray, List.set_cons_succ, List.set_cons_zero]; try simp only [wrap_zero]))
        refine wpM_new _ rfl rfl (fun V v => Stable.pure) (fun V V' h => rfl) (fun w' hw' hK => ?_) (fun v hv => ?_)
        · unfold mildAt; go_simp; rw [mildUpon_enter]
          refine ⟨Below.refl _ _, (has_any (ha.ext (hE1.trans hw')) (hah.ext (hE1.trans hw')) (hx.ext (hE1.trans hw')) rfl).mono ?_⟩
          rintro e w2 ⟨rfl, hE2⟩
          exact ⟨_, rfl, hE2, by rw [HP.out]⟩
        obtain ⟨_, _, _, rfl⟩ := hv
        simp only [Act.put, List.setIfInBounds_toArray, List.set_cons_succ, List.set_cons_zero]
        repeat (first | (apply wpM_one; (case hg => rfl); (case hsp => rfl); (case hv => (intro w' hw'; go_simp; exact rfl)); simp only [Act.put, List.setIfInBounds_toArray, List.set_cons_succ, List.set_cons_zero]; try simp only [wrap_zero]) | (apply wpM_oneG; (case hw => rfl); (case hsp => rfl); (case hv => (intro w' hw'; go_simp; exact rfl)); simp only [Act.put, List.setIfInBounds_toArray, List.set_cons_succ, List.set_cons_zero]; try simp only [wrap_zero]) | (apply wpM_pass; (case hw => rfl); simp only [Act.put, List.setIfInBounds_toArray, List.set_cons_succ, List.set_cons_zero]; try simp only [wrap_zero]))
        refine wpM_newG _ rfl rfl (fun V v => Stable.pure) (fun V V' h => rfl) (fun w' hw' hK => ?_) (fun v hv => ?_)
        · unfold mildAt; go_simp; rw [mildUpon_enter]
          refine ⟨Below.refl _ _, (has_any (hb.ext (hE1.trans hw')) (hbh.ext (hE1.trans hw')) (hx.ext (hE1.trans hw')) rfl).mono ?_⟩
          rintro e w2 ⟨rfl, hE2⟩
          exact ⟨_, rfl, hE2, by rw [HQ.out]⟩
        obtain ⟨_, _, _, rfl⟩ := hv
        simp only [Act.put, List.setIfInBounds_toArray, List.set_cons_succ, List.set_cons_zero]
        repeat (first | (apply wpM_one; (case hg => rfl); (case hsp => rfl); (case hv => (intro w' hw'; go_simp; exact rfl)); simp only [Act.put, List.setIfInBounds_toArray, List.set_cons_succ, List.set_cons_zero]; try simp only [wrap_zero]) | (apply wpM_oneG; (case hw => rfl); (case hsp => rfl); (case hv => (intro w' hw'; go_simp; exact rfl)); simp only [Act.put, List.setIfInBounds_toArray, List.set_cons_succ, List.set_cons_zero]; try simp only [wrap_zero]) | (apply wpM_pass; (case hw => rfl); simp only [Act.put, List.setIfInBounds_toArray, List.set_cons_succ, List.set_cons_zero]; try simp only [wrap_zero]))
        apply wpM_nil
        apply hN
        intro w6 hE6 hK
        clear hK hN
        clear ea0 ea1 ea2 eb0 eb1 eb2
        go_wp2
        go_meet
        case rel => exact ⟨rfl, hW.trans hE6⟩
  case' rest =>
    obtain ⟨rfl, hE6⟩ := hcut
    have hy1 := hE6.blk hy1
    have hy2 := hE6.blk hy2
    have hE := hE.trans hE6
    clear hE6
    have ga0 : wc.cell? ⟨w.heap.size, 0, none⟩ = some (.slice aA a.length ac) := cell_of_row _ _ _ _ _ _ hy1
    have ga1 : wc.cell? ⟨w.heap.size, 1, none⟩ = some (.slice aB ah.length ad) := cell_of_row _ _ _ _ _ _ hy1
    have ga2 : wc.cell? ⟨w.heap.size, 2, none⟩ = some (.bool ao) := cell_of_row _ _ _ _ _ _ hy1
    have gb0 : wc.cell? ⟨w.heap.size + 1, 0, none⟩ = some (.slice bA b.length bc) := cell_of_row _ _ _ _ _ _ hy2
    have gb1 : wc.cell? ⟨w.heap.size + 1, 1, none⟩ = some (.slice bB bh.length bd) := cell_of_row _ _ _ _ _ _ hy2
    have gb2 : wc.cell? ⟨w.heap.size + 1, 2, none⟩ = some (.bool bo) := cell_of_row _ _ _ _ _ _ hy2
    go_wp2
    clear ga0 ga1 ga2 gb0 gb1 gb2
    go_cut [77] from 10 (fun s wx => s = .bool false ∧ Ext wc wx)
  case first =>
    obtain ⟨u, hu⟩ : ∃ u, hasB (aboveR b) xs = u := ⟨_, rfl⟩
    have HU := Lib.hid hu
    have HUI := Lib.hid (show u = decide ((comB b xs : Int) = (b.length : Int)) by rw [← hu, has_above b xs HK.out]; simp; omega)
    clear hu
    refine wp_region_mild 13 (fun i => match i with
      | 2 => some fun _ v w' => ∃ A c B d, v = .agg #[.slice A (aboveR b).lo.length c, .slice B (aboveR b).hi.length d, .bool (aboveR b).op] ∧ Sl w' A c (aboveR b).lo ∧ Sl w' B d (aboveR b).hi
      | 4 => some fun _ v w' => v = .bool u
      | 8 => some fun _ v w' => v = .int .i64 (comB b xs : Int)
      | _ => none) (by kernel_rfl) (by kernel_rfl) (fun W N hW hN => ?_)
    have hE1 := hE.trans hW
    have ea0 : ∀ w', Ext W w' → w'.cell? ⟨w.heap.size, 0, none⟩ = some (.slice aA a.length ac) := fun w' h => cell_of_row _ _ _ _ _ _ ((hW.trans h).blk hy1)
    have ea1 : ∀ w', Ext W w' → w'.cell? ⟨w.heap.size, 1, none⟩ = some (.slice aB ah.length ad) := fun w' h => cell_of_row _ _ _ _ _ _ ((hW.trans h).blk hy1)
    have ea2 : ∀ w', Ext W w' → w'.cell? ⟨w.heap.size, 2, none⟩ = some (.bool ao) := fun w' h => cell_of_row _ _ _ _ _ _ ((hW.trans h).blk hy1)
    have eb0 : ∀ w', Ext W w' → w'.cell? ⟨w.heap.size + 1, 0, none⟩ = some (.slice bA b.length bc) := fun w' h => cell_of_row _ _ _ _ _ _ ((hW.trans h).blk hy2)
    have eb1 : ∀ w', Ext W w' → w'.cell? ⟨w.heap.size + 1, 1, none⟩ = some (.slice bB bh.length bd) := fun w' h => cell_of_row _ _ _ _ _ _ ((hW.trans h).blk hy2)
    have eb2 : ∀ w', Ext W w' → w'.cell? ⟨w.heap.size + 1, 2, none⟩ = some (.bool bo) := fun w' h => cell_of_row _ _ _ _ _ _ ((hW.trans h).blk hy2)
    simp only [List.take_succ_cons, List.take_zero]
    repeat (first | (apply wpM_one; (case hg => rfl); (case hsp => rfl); (case hv => (intro w' hw'; go_simp; exact rfl)); simp only [Act.put, List.setIfInBounds_toArray, List.set_cons_succ, List.set_cons_zero]; try simp only [wrap_zero]) | (apply wpM_oneG; (case hw => rfl); (case hsp => rfl); (case hv => (intro w' hw'; go_simp; exact rfl)); simp only [Act.put, List.setIfInBounds_toArray, List.set_cons_succ, List.set_cons_zero]; try simp only [wrap_zero]) | (apply wpM_pass; (case hw => rfl); simp only [Act.put, List.setIfInBounds_toArray, List.set_cons_succ, List.set_cons_zero]; try simp only [wrap_zero]))
    refine wpM_new _ rfl rfl (fun V v => stable_two v) (fun V V' h => rfl) (fun w' hw' hK => ?_) (fun v hv => ?_)
    · unfold mildAt; go_simp; rw [mildUpon_enter]
      refine ⟨Below.refl _ _, (above_any (hb.ext (hE1.trans hw')) rfl).mono ?_⟩
      rintro e w2 ⟨A, c, B, d, rfl, ⟨ho1, ho2, _⟩, hE2⟩
      exact ⟨_, rfl, hE2, A, c, B, d, rfl, ho1.sl hb.len, ho2.sl (Nat.le_trans (upB_length b) hb.len)⟩
    obtain ⟨_, _, _, A3, c3, B3, d3, rfl, _, _⟩ := hv
    simp only [Act.put, List.setIfInBounds_toArray, List.set_cons_succ, List.set_cons_zero]
    repeat (first | (apply wpM_one; (case hg => rfl); (case hsp => rfl); (case hv => (intro w' hw'; go_simp; exact rfl)); simp only [Act.put, List.setIfInBounds_toArray, List.set_cons_succ, List.set_cons_zero]; try simp only [wrap_zero]) | (apply wpM_oneG; (case hw => rfl); (case hsp => rfl); (case hv => (intro w' hw'; go_simp; exact rfl)); simp only [Act.put, List.setIfInBounds_toArray, List.set_cons_succ, List.set_cons_zero]; try simp only [wrap_zero]) | (apply wpM_pass; (case hw => rfl); simp only [Act.put, List.setIfInBounds_toArray, List.set_cons_succ, List.set_cons_zero]; try simp only [wrap_zero]))
    refine wpM_new _ rfl rfl (fun V v => Stable.pure) (fun V V' h => rfl) (fun w' hw' hK => ?_) (fun v hv => ?_)
    · obtain ⟨A4, c4, B4, d4, e4, s1, s2⟩ := (hK 2 (by kernel_rfl)).2
      injection e4 with e4
      injection e4 with e4
      injection e4 with x1 e4
      injection e4 with x2 e4
      injection x1 with y1 y2 y3
      injection x2 with y4 y5 y6
      subst y1 y3 y4 y6
      clear hK
      unfold mildAt; go_simp; rw [mildUpon_enter]
      refine ⟨Below.refl _ _, (has_any s1 s2 (hx.ext (hE1.trans hw')) rfl).mono ?_⟩
      rintro e w2 ⟨rfl, hE2⟩
      exact ⟨_, rfl, hE2, by rw [HU.out]⟩
    obtain ⟨_, _, _, rfl⟩ := hv
    simp only [Act.put, List.setIfInBounds_toArray, List.set_cons_succ, List.set_cons_zero]
    repeat (first | (apply wpM_one; (case hg => rfl); (case hsp => rfl); (case hv => (intro w' hw'; go_simp; exact rfl)); simp only [Act.put, List.setIfInBounds_toArray, List.set_cons_succ, List.set_cons_zero]; try simp only [wrap_zero]) | (apply wpM_oneG; (case hw => rfl); (case hsp => rfl); (case hv => (intro w' hw'; go_simp; exact rfl)); simp only [Act.put, List.setIfInBounds_toArray, List.set_cons_succ, List.set_cons_zero]; try simp only [wrap_zero]) | (apply wpM_pass; (case hw => rfl); simp only [Act.put, List.setIfInBounds_toArray, List.set_cons_succ, List.set_cons_zero]; try simp only [wrap_zero]))
    refine wpM_new _ rfl rfl (fun V v => Stable.pure) (fun V V' h => rfl) (fun w' hw' hK => ?_) (fun v hv => ?_)
    · unfold mildAt; go_simp; rw [mildUpon_enter]
      refine ⟨Below.refl _ _, (common_any (hb.ext (hE1.trans hw')) (hx.ext (hE1.trans hw')) rfl rfl).mono ?_⟩
      rintro e w2 ⟨rfl, hE2⟩
      exact ⟨_, rfl, hE2, rfl⟩
    obtain ⟨_, _, _, rfl⟩ := hv
    simp only [Act.put, List.setIfInBounds_toArray, List.set_cons_succ, List.set_cons_zero]
    repeat (first | (apply wpM_one; (case hg => rfl); (case hsp => rfl); (case hv => (intro w' hw'; go_simp; exact rfl)); simp only [Act.put, List.setIfInBounds_toArray, List.set_cons_succ, List.set_cons_zero]; try simp only [wrap_zero]) | (apply wpM_oneG; (case hw => rfl); (case hsp => rfl); (case hv => (intro w' hw'; go_simp; exact rfl)); simp only [Act.put, List.setIfInBounds_toArray, List.set_cons_succ, List.set_cons_zero]; try simp only [wrap_zero]) | (apply wpM_pass; (case hw => rfl); simp only [Act.put, List.setIfInBounds_toArray, List.set_cons_succ, List.set_cons_zero]; try simp only [wrap_zero]))
    apply wpM_nil
    apply hN
    intro w6 hE6 hK
    clear hK hN
    clear ea0 ea1 ea2 eb0 eb1 eb2
    go_wp2
    go_meet
    case rel => exact ⟨by have := HUI.out; cases u <;> simp_all, hW.trans hE6⟩
  case rest =>
    obtain ⟨rfl, hE6⟩ := hcut
    have hy1 := hE6.blk hy1
    have hy2 := hE6.blk hy2
    have hE := hE.trans hE6
    clear hE6
    have ga0 : wc.cell? ⟨w.heap.size, 0, none⟩ = some (.slice aA a.length ac) := cell_of_row _ _ _ _ _ _ hy1
    have ga1 : wc.cell? ⟨w.heap.size, 1, none⟩ = some (.slice aB ah.length ad) := cell_of_row _ _ _ _ _ _ hy1
    have ga2 : wc.cell? ⟨w.heap.size, 2, none⟩ = some (.bool ao) := cell_of_row _ _ _ _ _ _ hy1
    have gb0 : wc.cell? ⟨w.heap.size + 1, 0, none⟩ = some (.slice bA b.length bc) := cell_of_row _ _ _ _ _ _ hy2
    have gb1 : wc.cell? ⟨w.heap.size + 1, 1, none⟩ = some (.slice bB bh.length bd) := cell_of_row _ _ _ _ _ _ hy2
    have gb2 : wc.cell? ⟨w.heap.size + 1, 2, none⟩ = some (.bool bo) := cell_of_row _ _ _ _ _ _ hy2
    go_wp2_with fail
    refine (split_any (ha.ext hE) (hah.ext hE) (hb.ext hE) rfl).mono ?_
    rintro e w2 ⟨A1, c1, B1, d1, A2, c2, B2, d2, r, z, hr, hz, rfl, o1, o2, o3, o4, hE2⟩
    have s1 := o1.sl (by rw [hr]; exact (low_len ⟨a, ah, ao⟩ b _ ha.len hah.len hb.len).1)
    have s2 := o2.sl (by rw [hr]; exact (low_len ⟨a, ah, ao⟩ b _ ha.len hah.len hb.len).2)
    have s3 := o3.sl (by rw [hz]; exact (high_len ⟨a, ah, ao⟩ b _ ha.len hah.len hb.len).1)
    have s4 := o4.sl (by rw [hz]; exact (high_len ⟨a, ah, ao⟩ b _ ha.len hah.len hb.len).2)
    have HR := Lib.hid hr
    have HZ := Lib.hid hz
    replace hy1 := hE2.blk hy1
    replace hy2 := hE2.blk hy2
    replace hE := hE.trans hE2
    clear hr hz o1 o2 o3 o4 hE2
    clear ga0 ga1 ga2 gb0 gb1 gb2
    have hX0 := (ext_alloc w2 (.cells #[.slice none 0 0, .slice none 0 0, .bool false] 32 (0, 0))).trans (ext_alloc _ (.cells #[.slice none 0 0, .slice none 0 0, .bool false] 32 (0, 0)))
    have hz7 := heap_alloc2_old w2 (.cells #[.slice none 0 0, .slice none 0 0, .bool false] 32 (0, 0)) (.cells #[.slice none 0 0, .slice none 0 0, .bool false] 32 (0, 0))
    have hz8 := heap_alloc2_new w2 (.cells #[.slice none 0 0, .slice none 0 0, .bool false] 32 (0, 0)) (.cells #[.slice none 0 0, .slice none 0 0, .bool false] 32 (0, 0))
    have hz9 := fun w3 hg3 => blk_other (w' := w3) hz8 hg3 (k := w2.heap.size + 1) (g := w2.heap.size) (by omega)
    have hq0 : ∀ w3 w4, ((w2.alloc (.cells #[.slice none 0 0, .slice none 0 0, .bool false] 32 (0, 0))).alloc (.cells #[.slice none 0 0, .slice none 0 0, .bool false] 32 (0, 0))).grownBy w3 (some w2.heap.size) → w3.grownBy w4 (some (w2.heap.size + 1)) → w4.cell? ⟨w.heap.size + 1, 0, none⟩ = some (.slice bA b.length bc) := fun w3 w4 h3 h4 => cell_of_row _ _ _ _ _ _ ((ext_only (ext_only hX0 h3 (Nat.le_refl _)) h4 (by omega)).blk hy2)
    go_wp2_with (refine wpList_store_box rfl 32 _ _ rfl w2.heap.size _ rfl rfl 32 _ hz7 (by kernel_rfl) rfl (by simp [Value.oneCell']) ?_; intro w3 hb3 hg3; refine wpList_store_box rfl 32 _ _ rfl (w2.heap.size + 1) _ rfl rfl 32 _ (hz9 w3 hg3) (by kernel_rfl) rfl (by simp [Value.oneCell']) ?_; intro w4 hb4 hg4; have gb0 := hq0 w3 w4 hg3 hg4)
    have hX3 := ext_only hX0 hg3 (Nat.le_refl _)
    have hX4 := ext_only hX3 hg4 (by omega)
    have hb3 := blk_other hb3 hg4 (by omega)
    replace hy1 := hX4.blk hy1
    replace hy2 := hX4.blk hy2
    replace hE := hE.trans hX4
    replace s1 := s1.ext hX4
    replace s2 := s2.ext hX4
    replace s3 := s3.ext hX4
    replace s4 := s4.ext hX4
    clear hX0 hz7 hz8 hz9 hq0 hg3 hX3 hg4 hX4
    refine (scmp_any (hx.ext hE) (hb.ext hE) rfl rfl).mono ?_
    rintro e w5 ⟨rfl, hE5⟩
    clear gb0
    replace hy1 := hE5.blk hy1
    replace hy2 := hE5.blk hy2
    replace hb3 := hE5.blk hb3
    replace hb4 := hE5.blk hb4
    replace hE := hE.trans hE5
    replace s1 := s1.ext hE5
    replace s2 := s2.ext hE5
    replace s3 := s3.ext hE5
    replace s4 := s4.ext hE5
    clear hE5
    have hl := has_low ⟨a, ah, ao⟩ b xs
    have hh := has_high ⟨a, ah, ao⟩ b xs
    rw [HP.out] at hl hh
    rw [← HR.out] at hl
    rw [← HZ.out] at hh
    obtain ⟨t, ht⟩ : ∃ t, decide (LtB xs b) = t := ⟨_, rfl⟩
    rw [ht] at hl hh
    have HT := Lib.hid (show decide (cmpB xs b < 0) = t from ht)
    clear ht HQ HM n1 n2 n3 n4
    go_wp2
    try simp only [HT.out]
    cases p
    · cases t
      have HL := Lib.hid (show hasB r xs = false by rw [hl]; rfl)
      have HH := Lib.hid (show hasB z xs = false by rw [hh]; rfl)
      refine wp_region_mild 23 (fun i => match i with
        | 2 => some fun _ v w' => v = .bool false
        | 5 => some fun _ v w' => v = .bool false
        | 13 => some fun _ v w' => v = .bool false
        | 16 => some fun _ v w' => v = .bool false
        | _ => none) (by kernel_rfl) (by kernel_rfl) (fun W N hW hN => ?_)
      have hE1 := hE.trans hW
      have ea0 : ∀ w', Ext W w' → w'.cell? ⟨w.heap.size, 0, none⟩ = some (.slice aA a.length ac) := fun w' h => cell_of_row _ _ _ _ _ _ ((hW.trans h).blk hy1)
      have ea1 : ∀ w', Ext W w' → w'.cell? ⟨w.heap.size, 1, none⟩ = some (.slice aB ah.length ad) := fun w' h => cell_of_row _ _ _ _ _ _ ((hW.trans h).blk hy1)
      have ea2 : ∀ w', Ext W w' → w'.cell? ⟨w.heap.size, 2, none⟩ = some (.bool ao) := fun w' h => cell_of_row _ _ _ _ _ _ ((hW.trans h).blk hy1)
      have eb0 : ∀ w', Ext W w' → w'.cell? ⟨w.heap.size + 1, 0, none⟩ = some (.slice bA b.length bc) := fun w' h => cell_of_row _ _ _ _ _ _ ((hW.trans h).blk hy2)
      have eb1 : ∀ w', Ext W w' → w'.cell? ⟨w.heap.size + 1, 1, none⟩ = some (.slice bB bh.length bd) := fun w' h => cell_of_row _ _ _ _ _ _ ((hW.trans h).blk hy2)
      have eb2 : ∀ w', Ext W w' → w'.cell? ⟨w.heap.size + 1, 2, none⟩ = some (.bool bo) := fun w' h => cell_of_row _ _ _ _ _ _ ((hW.trans h).blk hy2)
      have ec0 : ∀ w', Ext W w' → w'.cell? ⟨w2.heap.size, 0, none⟩ = some (.slice A1 r.lo.length c1) := fun w' h => cell_of_row _ _ _ _ _ _ ((hW.trans h).blk hb3)
      have ec1 : ∀ w', Ext W w' → w'.cell? ⟨w2.heap.size, 1, none⟩ = some (.slice B1 r.hi.length d1) := fun w' h => cell_of_row _ _ _ _ _ _ ((hW.trans h).blk hb3)
      have ec2 : ∀ w', Ext W w' → w'.cell? ⟨w2.heap.size, 2, none⟩ = some (.bool r.op) := fun w' h => cell_of_row _ _ _ _ _ _ ((hW.trans h).blk hb3)
      have ed0 : ∀ w', Ext W w' → w'.cell? ⟨w2.heap.size + 1, 0, none⟩ = some (.slice A2 z.lo.length c2) := fun w' h => cell_of_row _ _ _ _ _ _ ((hW.trans h).blk hb4)
      have ed1 : ∀ w', Ext W w' → w'.cell? ⟨w2.heap.size + 1, 1, none⟩ = some (.slice B2 z.hi.length d2) := fun w' h => cell_of_row _ _ _ _ _ _ ((hW.trans h).blk hb4)
      have ed2 : ∀ w', Ext W w' → w'.cell? ⟨w2.heap.size + 1, 2, none⟩ = some (.bool z.op) := fun w' h => cell_of_row _ _ _ _ _ _ ((hW.trans h).blk hb4)
      simp only [List.take_succ_cons, List.take_zero]
      repeat (first | (apply wpM_one; (case hg => rfl); (case hsp => rfl); (case hv => (intro w' hw'; go_simp; exact rfl)); simp only [Act.put, List.setIfInBounds_toArray, List.set_cons_succ, List.set_cons_zero]; try simp only [wrap_zero]) | (apply wpM_oneG; (case hw => rfl); (case hsp => rfl); (case hv => (intro w' hw'; go_simp; exact rfl)); simp only [Act.put, List.setIfInBounds_toArray, List.set_cons_succ, List.set_cons_zero]; try simp only [wrap_zero]) | (apply wpM_pass; (case hw => rfl); simp only [Act.put, List.setIfInBounds_toArray, List.set_cons_succ, List.set_cons_zero]; try simp only [wrap_zero]))
      refine wpM_new _ rfl rfl (fun V v => Stable.pure) (fun V V' h => rfl) (fun w' hw' hK => ?_) (fun v hv => ?_)
      · unfold mildAt; go_simp; rw [mildUpon_enter]
        refine ⟨Below.refl _ _, (has_any (s1.ext (hW.trans hw')) (s2.ext (hW.trans hw')) (hx.ext (hE1.trans hw')) rfl).mono ?_⟩
        rintro e w2 ⟨rfl, hE2⟩
        exact ⟨_, rfl, hE2, by rw [HL.out]⟩
      obtain ⟨_, _, _, rfl⟩ := hv
      simp only [Act.put, List.setIfInBounds_toArray, List.set_cons_succ, List.set_cons_zero]
      repeat (first | (apply wpM_one; (case hg => rfl); (case hsp => rfl); (case hv => (intro w' hw'; go_simp; exact rfl)); simp only [Act.put, List.setIfInBounds_toArray, List.set_cons_succ, List.set_cons_zero]; try simp only [wrap_zero]) | (apply wpM_oneG; (case hw => rfl); (case hsp => rfl); (case hv => (intro w' hw'; go_simp; exact rfl)); simp only [Act.put, List.setIfInBounds_toArray, List.set_cons_succ, List.set_cons_zero]; try simp only [wrap_zero]) | (apply wpM_pass; (case hw => rfl); simp only [Act.put, List.setIfInBounds_toArray, List.set_cons_succ, List.set_cons_zero]; try simp only [wrap_zero]))
      refine wpM_new _ rfl rfl (fun V v => Stable.pure) (fun V V' h => rfl) (fun w' hw' hK => ?_) (fun v hv => ?_)
      · unfold mildAt; go_simp; rw [mildUpon_enter]
        refine ⟨Below.refl _ _, (has_any (ha.ext (hE1.trans hw')) (hah.ext (hE1.trans hw')) (hx.ext (hE1.trans hw')) rfl).mono ?_⟩
        rintro e w2 ⟨rfl, hE2⟩
        exact ⟨_, rfl, hE2, by rw [HP.out]⟩
      obtain ⟨_, _, _, rfl⟩ := hv
      simp only [Act.put, List.setIfInBounds_toArray, List.set_cons_succ, List.set_cons_zero]
      repeat (first | (apply wpM_one; (case hg => rfl); (case hsp => rfl); (case hv => (intro w' hw'; go_simp; exact rfl)); simp only [Act.put, List.setIfInBounds_toArray, List.set_cons_succ, List.set_cons_zero]; try simp only [wrap_zero]) | (apply wpM_oneG; (case hw => rfl); (case hsp => rfl); (case hv => (intro w' hw'; go_simp; exact rfl)); simp only [Act.put, List.setIfInBounds_toArray, List.set_cons_succ, List.set_cons_zero]; try simp only [wrap_zero]) | (apply wpM_pass; (case hw => rfl); simp only [Act.put, List.setIfInBounds_toArray, List.set_cons_succ, List.set_cons_zero]; try simp only [wrap_zero]))
      refine wpM_newG _ rfl rfl (fun V v => Stable.pure) (fun V V' h => rfl) (fun w' hw' hK => ?_) (fun v hv => ?_)
      · unfold mildAt; go_simp; rw [mildUpon_enter]
        refine ⟨Below.refl _ _, (has_any (s3.ext (hW.trans hw')) (s4.ext (hW.trans hw')) (hx.ext (hE1.trans hw')) rfl).mono ?_⟩
        rintro e w2 ⟨rfl, hE2⟩
        exact ⟨_, rfl, hE2, by rw [HH.out]⟩
      obtain ⟨_, _, _, rfl⟩ := hv
      simp only [Act.put, List.setIfInBounds_toArray, List.set_cons_succ, List.set_cons_zero]
      repeat (first | (apply wpM_one; (case hg => rfl); (case hsp => rfl); (case hv => (intro w' hw'; go_simp; exact rfl)); simp only [Act.put, List.setIfInBounds_toArray, List.set_cons_succ, List.set_cons_zero]; try simp only [wrap_zero]) | (apply wpM_oneG; (case hw => rfl); (case hsp => rfl); (case hv => (intro w' hw'; go_simp; exact rfl)); simp only [Act.put, List.setIfInBounds_toArray, List.set_cons_succ, List.set_cons_zero]; try simp only [wrap_zero]) | (apply wpM_pass; (case hw => rfl); simp only [Act.put, List.setIfInBounds_toArray, List.set_cons_succ, List.set_cons_zero]; try simp only [wrap_zero]))
      refine wpM_newG _ rfl rfl (fun V v => Stable.pure) (fun V V' h => rfl) (fun w' hw' hK => ?_) (fun v hv => ?_)
      · unfold mildAt; go_simp; rw [mildUpon_enter]
        refine ⟨Below.refl _ _, (has_any (ha.ext (hE1.trans hw')) (hah.ext (hE1.trans hw')) (hx.ext (hE1.trans hw')) rfl).mono ?_⟩
        rintro e w2 ⟨rfl, hE2⟩
        exact ⟨_, rfl, hE2, by rw [HP.out]⟩
      obtain ⟨_, _, _, rfl⟩ := hv
      simp only [Act.put, List.setIfInBounds_toArray, List.set_cons_succ, List.set_cons_zero]
      repeat (first | (apply wpM_one; (case hg => rfl); (case hsp => rfl); (case hv => (intro w' hw'; go_simp; exact rfl)); simp only [Act.put, List.setIfInBounds_toArray, List.set_cons_succ, List.set_cons_zero]; try simp only [wrap_zero]) | (apply wpM_oneG; (case hw => rfl); (case hsp => rfl); (case hv => (intro w' hw'; go_simp; exact rfl)); simp only [Act.put, List.setIfInBounds_toArray, List.set_cons_succ, List.set_cons_zero]; try simp only [wrap_zero]) | (apply wpM_pass; (case hw => rfl); simp only [Act.put, List.setIfInBounds_toArray, List.set_cons_succ, List.set_cons_zero]; try simp only [wrap_zero]))
      apply wpM_nil
      apply hN
      intro w6 hE6 hK
      clear hK hN
      clear ea0 ea1 ea2 eb0 eb1 eb2 ec0 ec1 ec2 ed0 ed1 ed2
      go_wp2
      go_ret
      exact ⟨rfl, hE1.trans hE6⟩
      · skip
        have HL := Lib.hid (show hasB r xs = false by rw [hl]; rfl)
        have HH := Lib.hid (show hasB z xs = false by rw [hh]; rfl)
        refine wp_region_mild 23 (fun i => match i with
          | 2 => some fun _ v w' => v = .bool false
          | 5 => some fun _ v w' => v = .bool false
          | 13 => some fun _ v w' => v = .bool false
          | 16 => some fun _ v w' => v = .bool false
          | _ => none) (by kernel_rfl) (by kernel_rfl) (fun W N hW hN => ?_)
        have hE1 := hE.trans hW
        have ea0 : ∀ w', Ext W w' → w'.cell? ⟨w.heap.size, 0, none⟩ = some (.slice aA a.length ac) := fun w' h => cell_of_row _ _ _ _ _ _ ((hW.trans h).blk hy1)
        have ea1 : ∀ w', Ext W w' → w'.cell? ⟨w.heap.size, 1, none⟩ = some (.slice aB ah.length ad) := fun w' h => cell_of_row _ _ _ _ _ _ ((hW.trans h).blk hy1)
        have ea2 : ∀ w', Ext W w' → w'.cell? ⟨w.heap.size, 2, none⟩ = some (.bool ao) := fun w' h => cell_of_row _ _ _ _ _ _ ((hW.trans h).blk hy1)
        have eb0 : ∀ w', Ext W w' → w'.cell? ⟨w.heap.size + 1, 0, none⟩ = some (.slice bA b.length bc) := fun w' h => cell_of_row _ _ _ _ _ _ ((hW.trans h).blk hy2)
        have eb1 : ∀ w', Ext W w' → w'.cell? ⟨w.heap.size + 1, 1, none⟩ = some (.slice bB bh.length bd) := fun w' h => cell_of_row _ _ _ _ _ _ ((hW.trans h).blk hy2)
        have eb2 : ∀ w', Ext W w' → w'.cell? ⟨w.heap.size + 1, 2, none⟩ = some (.bool bo) := fun w' h => cell_of_row _ _ _ _ _ _ ((hW.trans h).blk hy2)
        have ec0 : ∀ w', Ext W w' → w'.cell? ⟨w2.heap.size, 0, none⟩ = some (.slice A1 r.lo.length c1) := fun w' h => cell_of_row _ _ _ _ _ _ ((hW.trans h).blk hb3)
        have ec1 : ∀ w', Ext W w' → w'.cell? ⟨w2.heap.size, 1, none⟩ = some (.slice B1 r.hi.length d1) := fun w' h => cell_of_row _ _ _ _ _ _ ((hW.trans h).blk hb3)
        have ec2 : ∀ w', Ext W w' → w'.cell? ⟨w2.heap.size, 2, none⟩ = some (.bool r.op) := fun w' h => cell_of_row _ _ _ _ _ _ ((hW.trans h).blk hb3)
        have ed0 : ∀ w', Ext W w' → w'.cell? ⟨w2.heap.size + 1, 0, none⟩ = some (.slice A2 z.lo.length c2) := fun w' h => cell_of_row _ _ _ _ _ _ ((hW.trans h).blk hb4)
        have ed1 : ∀ w', Ext W w' → w'.cell? ⟨w2.heap.size + 1, 1, none⟩ = some (.slice B2 z.hi.length d2) := fun w' h => cell_of_row _ _ _ _ _ _ ((hW.trans h).blk hb4)
        have ed2 : ∀ w', Ext W w' → w'.cell? ⟨w2.heap.size + 1, 2, none⟩ = some (.bool z.op) := fun w' h => cell_of_row _ _ _ _ _ _ ((hW.trans h).blk hb4)
        simp only [List.take_succ_cons, List.take_zero]
        repeat (first | (apply wpM_one; (case hg => rfl); (case hsp => rfl); (case hv => (intro w' hw'; go_simp; exact rfl)); simp only [Act.put, List.setIfInBounds_toArray, List.set_cons_succ, List.set_cons_zero]; try simp only [wrap_zero]) | (apply wpM_oneG; (case hw => rfl); (case hsp => rfl); (case hv => (intro w' hw'; go_simp; exact rfl)); simp only [Act.put, List.setIfInBounds_toArray, List.set_cons_succ, List.set_cons_zero]; try simp only [wrap_zero]) | (apply wpM_pass; (case hw => rfl); simp only [Act.put, List.setIfInBounds_toArray, List.set_cons_succ, List.set_cons_zero]; try simp only [wrap_zero]))
        refine wpM_new _ rfl rfl (fun V v => Stable.pure) (fun V V' h => rfl) (fun w' hw' hK => ?_) (fun v hv => ?_)
        · unfold mildAt; go_simp; rw [mildUpon_enter]
          refine ⟨Below.refl _ _, (has_any (s1.ext (hW.trans hw')) (s2.ext (hW.trans hw')) (hx.ext (hE1.trans hw')) rfl).mono ?_⟩
          rintro e w2 ⟨rfl, hE2⟩
          exact ⟨_, rfl, hE2, by rw [HL.out]⟩
        obtain ⟨_, _, _, rfl⟩ := hv
        simp only [Act.put, List.setIfInBounds_toArray, List.set_cons_succ, List.set_cons_zero]
        repeat (first | (apply wpM_one; (case hg => rfl); (case hsp => rfl); (case hv => (intro w' hw'; go_simp; exact rfl)); simp only [Act.put, List.setIfInBounds_toArray, List.set_cons_succ, List.set_cons_zero]; try simp only [wrap_zero]) | (apply wpM_oneG; (case hw => rfl); (case hsp => rfl); (case hv => (intro w' hw'; go_simp; exact rfl)); simp only [Act.put, List.setIfInBounds_toArray, List.set_cons_succ, List.set_cons_zero]; try simp only [wrap_zero]) | (apply wpM_pass; (case hw => rfl); simp only [Act.put, List.setIfInBounds_toArray, List.set_cons_succ, List.set_cons_zero]; try simp only [wrap_zero]))
        refine wpM_new _ rfl rfl (fun V v => Stable.pure) (fun V V' h => rfl) (fun w' hw' hK => ?_) (fun v hv => ?_)
        · unfold mildAt; go_simp; rw [mildUpon_enter]
          refine ⟨Below.refl _ _, (has_any (ha.ext (hE1.trans hw')) (hah.ext (hE1.trans hw')) (hx.ext (hE1.trans hw')) rfl).mono ?_⟩
          rintro e w2 ⟨rfl, hE2⟩
          exact ⟨_, rfl, hE2, by rw [HP.out]⟩
        obtain ⟨_, _, _, rfl⟩ := hv
        simp only [Act.put, List.setIfInBounds_toArray, List.set_cons_succ, List.set_cons_zero]
        repeat (first | (apply wpM_one; (case hg => rfl); (case hsp => rfl); (case hv => (intro w' hw'; go_simp; exact rfl)); simp only [Act.put, List.setIfInBounds_toArray, List.set_cons_succ, List.set_cons_zero]; try simp only [wrap_zero]) | (apply wpM_oneG; (case hw => rfl); (case hsp => rfl); (case hv => (intro w' hw'; go_simp; exact rfl)); simp only [Act.put, List.setIfInBounds_toArray, List.set_cons_succ, List.set_cons_zero]; try simp only [wrap_zero]) | (apply wpM_pass; (case hw => rfl); simp only [Act.put, List.setIfInBounds_toArray, List.set_cons_succ, List.set_cons_zero]; try simp only [wrap_zero]))
        refine wpM_newG _ rfl rfl (fun V v => Stable.pure) (fun V V' h => rfl) (fun w' hw' hK => ?_) (fun v hv => ?_)
        · unfold mildAt; go_simp; rw [mildUpon_enter]
          refine ⟨Below.refl _ _, (has_any (s3.ext (hW.trans hw')) (s4.ext (hW.trans hw')) (hx.ext (hE1.trans hw')) rfl).mono ?_⟩
          rintro e w2 ⟨rfl, hE2⟩
          exact ⟨_, rfl, hE2, by rw [HH.out]⟩
        obtain ⟨_, _, _, rfl⟩ := hv
        simp only [Act.put, List.setIfInBounds_toArray, List.set_cons_succ, List.set_cons_zero]
        repeat (first | (apply wpM_one; (case hg => rfl); (case hsp => rfl); (case hv => (intro w' hw'; go_simp; exact rfl)); simp only [Act.put, List.setIfInBounds_toArray, List.set_cons_succ, List.set_cons_zero]; try simp only [wrap_zero]) | (apply wpM_oneG; (case hw => rfl); (case hsp => rfl); (case hv => (intro w' hw'; go_simp; exact rfl)); simp only [Act.put, List.setIfInBounds_toArray, List.set_cons_succ, List.set_cons_zero]; try simp only [wrap_zero]) | (apply wpM_pass; (case hw => rfl); simp only [Act.put, List.setIfInBounds_toArray, List.set_cons_succ, List.set_cons_zero]; try simp only [wrap_zero]))
        refine wpM_newG _ rfl rfl (fun V v => Stable.pure) (fun V V' h => rfl) (fun w' hw' hK => ?_) (fun v hv => ?_)
        · unfold mildAt; go_simp; rw [mildUpon_enter]
          refine ⟨Below.refl _ _, (has_any (ha.ext (hE1.trans hw')) (hah.ext (hE1.trans hw')) (hx.ext (hE1.trans hw')) rfl).mono ?_⟩
          rintro e w2 ⟨rfl, hE2⟩
          exact ⟨_, rfl, hE2, by rw [HP.out]⟩
        obtain ⟨_, _, _, rfl⟩ := hv
        simp only [Act.put, List.setIfInBounds_toArray, List.set_cons_succ, List.set_cons_zero]
        repeat (first | (apply wpM_one; (case hg => rfl); (case hsp => rfl); (case hv => (intro w' hw'; go_simp; exact rfl)); simp only [Act.put, List.setIfInBounds_toArray, List.set_cons_succ, List.set_cons_zero]; try simp only [wrap_zero]) | (apply wpM_oneG; (case hw => rfl); (case hsp => rfl); (case hv => (intro w' hw'; go_simp; exact rfl)); simp only [Act.put, List.setIfInBounds_toArray, List.set_cons_succ, List.set_cons_zero]; try simp only [wrap_zero]) | (apply wpM_pass; (case hw => rfl); simp only [Act.put, List.setIfInBounds_toArray, List.set_cons_succ, List.set_cons_zero]; try simp only [wrap_zero]))
        apply wpM_nil
        apply hN
        intro w6 hE6 hK
        clear hK hN
        clear ea0 ea1 ea2 eb0 eb1 eb2 ec0 ec1 ec2 ed0 ed1 ed2
        go_wp2
        go_ret
        exact ⟨rfl, hE1.trans hE6⟩
    · cases t
      have HL := Lib.hid (show hasB r xs = false by rw [hl]; rfl)
      have HH := Lib.hid (show hasB z xs = true by rw [hh]; rfl)
      refine wp_region_mild 23 (fun i => match i with
        | 2 => some fun _ v w' => v = .bool false
        | 5 => some fun _ v w' => v = .bool true
        | 13 => some fun _ v w' => v = .bool true
        | 16 => some fun _ v w' => v = .bool true
        | _ => none) (by kernel_rfl) (by kernel_rfl) (fun W N hW hN => ?_)
      have hE1 := hE.trans hW
      have ea0 : ∀ w', Ext W w' → w'.cell? ⟨w.heap.size, 0, none⟩ = some (.slice aA a.length ac) := fun w' h => cell_of_row _ _ _ _ _ _ ((hW.trans h).blk hy1)
      have ea1 : ∀ w', Ext W w' → w'.cell? ⟨w.heap.size, 1, none⟩ = some (.slice aB ah.length ad) := fun w' h => cell_of_row _ _ _ _ _ _ ((hW.trans h).blk hy1)
      have ea2 : ∀ w', Ext W w' → w'.cell? ⟨w.heap.size, 2, none⟩ = some (.bool ao) := fun w' h => cell_of_row _ _ _ _ _ _ ((hW.trans h).blk hy1)
      have eb0 : ∀ w', Ext W w' → w'.cell? ⟨w.heap.size + 1, 0, none⟩ = some (.slice bA b.length bc) := fun w' h => cell_of_row _ _ _ _ _ _ ((hW.trans h).blk hy2)
      have eb1 : ∀ w', Ext W w' → w'.cell? ⟨w.heap.size + 1, 1, none⟩ = some (.slice bB bh.length bd) := fun w' h => cell_of_row _ _ _ _ _ _ ((hW.trans h).blk hy2)
      have eb2 : ∀ w', Ext W w' → w'.cell? ⟨w.heap.size + 1, 2, none⟩ = some (.bool bo) := fun w' h => cell_of_row _ _ _ _ _ _ ((hW.trans h).blk hy2)
      have ec0 : ∀ w', Ext W w' → w'.cell? ⟨w2.heap.size, 0, none⟩ = some (.slice A1 r.lo.length c1) := fun w' h => cell_of_row _ _ _ _ _ _ ((hW.trans h).blk hb3)
      have ec1 : ∀ w', Ext W w' → w'.cell? ⟨w2.heap.size, 1, none⟩ = some (.slice B1 r.hi.length d1) := fun w' h => cell_of_row _ _ _ _ _ _ ((hW.trans h).blk hb3)
      have ec2 : ∀ w', Ext W w' → w'.cell? ⟨w2.heap.size, 2, none⟩ = some (.bool r.op) := fun w' h => cell_of_row _ _ _ _ _ _ ((hW.trans h).blk hb3)
      have ed0 : ∀ w', Ext W w' → w'.cell? ⟨w2.heap.size + 1, 0, none⟩ = some (.slice A2 z.lo.length c2) := fun w' h => cell_of_row _ _ _ _ _ _ ((hW.trans h).blk hb4)
      have ed1 : ∀ w', Ext W w' → w'.cell? ⟨w2.heap.size + 1, 1, none⟩ = some (.slice B2 z.hi.length d2) := fun w' h => cell_of_row _ _ _ _ _ _ ((hW.trans h).blk hb4)
      have ed2 : ∀ w', Ext W w' → w'.cell? ⟨w2.heap.size + 1, 2, none⟩ = some (.bool z.op) := fun w' h => cell_of_row _ _ _ _ _ _ ((hW.trans h).blk hb4)
      simp only [List.take_succ_cons, List.take_zero]
      repeat (first | (apply wpM_one; (case hg => rfl); (case hsp => rfl); (case hv => (intro w' hw'; go_simp; exact rfl)); simp only [Act.put, List.setIfInBounds_toArray, List.set_cons_succ, List.set_cons_zero]; try simp only [wrap_zero]) | (apply wpM_oneG; (case hw => rfl); (case hsp => rfl); (case hv => (intro w' hw'; go_simp; exact rfl)); simp only [Act.put, List.setIfInBounds_toArray, List.set_cons_succ, List.set_cons_zero]; try simp only [wrap_zero]) | (apply wpM_pass; (case hw => rfl); simp only [Act.put, List.setIfInBounds_toArray, List.set_cons_succ, List.set_cons_zero]; try simp only [wrap_zero]))
      refine wpM_new _ rfl rfl (fun V v => Stable.pure) (fun V V' h => rfl) (fun w' hw' hK => ?_) (fun v hv => ?_)
      · unfold mildAt; go_simp; rw [mildUpon_enter]
        refine ⟨Below.refl _ _, (has_any (s1.ext (hW.trans hw')) (s2.ext (hW.trans hw')) (hx.ext (hE1.trans hw')) rfl).mono ?_⟩
        rintro e w2 ⟨rfl, hE2⟩
        exact ⟨_, rfl, hE2, by rw [HL.out]⟩
      obtain ⟨_, _, _, rfl⟩ := hv
      simp only [Act.put, List.setIfInBounds_toArray, List.set_cons_succ, List.set_cons_zero]
      repeat (first | (apply wpM_one; (case hg => rfl); (case hsp => rfl); (case hv => (intro w' hw'; go_simp; exact rfl)); simp only [Act.put, List.setIfInBounds_toArray, List.set_cons_succ, List.set_cons_zero]; try simp only [wrap_zero]) | (apply wpM_oneG; (case hw => rfl); (case hsp => rfl); (case hv => (intro w' hw'; go_simp; exact rfl)); simp only [Act.put, List.setIfInBounds_toArray, List.set_cons_succ, List.set_cons_zero]; try simp only [wrap_zero]) | (apply wpM_pass; (case hw => rfl); simp only [Act.put, List.setIfInBounds_toArray, List.set_cons_succ, List.set_cons_zero]; try simp only [wrap_zero]))
      refine wpM_new _ rfl rfl (fun V v => Stable.pure) (fun V V' h => rfl) (fun w' hw' hK => ?_) (fun v hv => ?_)
      · unfold mildAt; go_simp; rw [mildUpon_enter]
        refine ⟨Below.refl _ _, (has_any (ha.ext (hE1.trans hw')) (hah.ext (hE1.trans hw')) (hx.ext (hE1.trans hw')) rfl).mono ?_⟩
        rintro e w2 ⟨rfl, hE2⟩
        exact ⟨_, rfl, hE2, by rw [HP.out]⟩
      obtain ⟨_, _, _, rfl⟩ := hv
      simp only [Act.put, List.setIfInBounds_toArray, List.set_cons_succ, List.set_cons_zero]
      repeat (first | (apply wpM_one; (case hg => rfl); (case hsp => rfl); (case hv => (intro w' hw'; go_simp; exact rfl)); simp only [Act.put, List.setIfInBounds_toArray, List.set_cons_succ, List.set_cons_zero]; try simp only [wrap_zero]) | (apply wpM_oneG; (case hw => rfl); (case hsp => rfl); (case hv => (intro w' hw'; go_simp; exact rfl)); simp only [Act.put, List.setIfInBounds_toArray, List.set_cons_succ, List.set_cons_zero]; try simp only [wrap_zero]) | (apply wpM_pass; (case hw => rfl); simp only [Act.put, List.setIfInBounds_toArray, List.set_cons_succ, List.set_cons_zero]; try simp only [wrap_zero]))
      refine wpM_newG _ rfl rfl (fun V v => Stable.pure) (fun V V' h => rfl) (fun w' hw' hK => ?_) (fun v hv => ?_)
      · unfold mildAt; go_simp; rw [mildUpon_enter]
        refine ⟨Below.refl _ _, (has_any (s3.ext (hW.trans hw')) (s4.ext (hW.trans hw')) (hx.ext (hE1.trans hw')) rfl).mono ?_⟩
        rintro e w2 ⟨rfl, hE2⟩
        exact ⟨_, rfl, hE2, by rw [HH.out]⟩
      obtain ⟨_, _, _, rfl⟩ := hv
      simp only [Act.put, List.setIfInBounds_toArray, List.set_cons_succ, List.set_cons_zero]
      repeat (first | (apply wpM_one; (case hg => rfl); (case hsp => rfl); (case hv => (intro w' hw'; go_simp; exact rfl)); simp only [Act.put, List.setIfInBounds_toArray, List.set_cons_succ, List.set_cons_zero]; try simp only [wrap_zero]) | (apply wpM_oneG; (case hw => rfl); (case hsp => rfl); (case hv => (intro w' hw'; go_simp; exact rfl)); simp only [Act.put, List.setIfInBounds_toArray, List.set_cons_succ, List.set_cons_zero]; try simp only [wrap_zero]) | (apply wpM_pass; (case hw => rfl); simp only [Act.put, List.setIfInBounds_toArray, List.set_cons_succ, List.set_cons_zero]; try simp only [wrap_zero]))
      refine wpM_newG _ rfl rfl (fun V v => Stable.pure) (fun V V' h => rfl) (fun w' hw' hK => ?_) (fun v hv => ?_)
      · unfold mildAt; go_simp; rw [mildUpon_enter]
        refine ⟨Below.refl _ _, (has_any (ha.ext (hE1.trans hw')) (hah.ext (hE1.trans hw')) (hx.ext (hE1.trans hw')) rfl).mono ?_⟩
        rintro e w2 ⟨rfl, hE2⟩
        exact ⟨_, rfl, hE2, by rw [HP.out]⟩
      obtain ⟨_, _, _, rfl⟩ := hv
      simp only [Act.put, List.setIfInBounds_toArray, List.set_cons_succ, List.set_cons_zero]
      repeat (first | (apply wpM_one; (case hg => rfl); (case hsp => rfl); (case hv => (intro w' hw'; go_simp; exact rfl)); simp only [Act.put, List.setIfInBounds_toArray, List.set_cons_succ, List.set_cons_zero]; try simp only [wrap_zero]) | (apply wpM_oneG; (case hw => rfl); (case hsp => rfl); (case hv => (intro w' hw'; go_simp; exact rfl)); simp only [Act.put, List.setIfInBounds_toArray, List.set_cons_succ, List.set_cons_zero]; try simp only [wrap_zero]) | (apply wpM_pass; (case hw => rfl); simp only [Act.put, List.setIfInBounds_toArray, List.set_cons_succ, List.set_cons_zero]; try simp only [wrap_zero]))
      apply wpM_nil
      apply hN
      intro w6 hE6 hK
      clear hK hN
      clear ea0 ea1 ea2 eb0 eb1 eb2 ec0 ec1 ec2 ed0 ed1 ed2
      go_wp2
      go_ret
      exact ⟨rfl, hE1.trans hE6⟩
      · skip
        have HL := Lib.hid (show hasB r xs = true by rw [hl]; rfl)
        have HH := Lib.hid (show hasB z xs = false by rw [hh]; rfl)
        refine wp_region_mild 23 (fun i => match i with
          | 2 => some fun _ v w' => v = .bool true
          | 5 => some fun _ v w' => v = .bool true
          | 13 => some fun _ v w' => v = .bool false
          | 16 => some fun _ v w' => v = .bool true
          | _ => none) (by kernel_rfl) (by kernel_rfl) (fun W N hW hN => ?_)
        have hE1 := hE.trans hW
        have ea0 : ∀ w', Ext W w' → w'.cell? ⟨w.heap.size, 0, none⟩ = some (.slice aA a.length ac) := fun w' h => cell_of_row _ _ _ _ _ _ ((hW.trans h).blk hy1)
        have ea1 : ∀ w', Ext W w' → w'.cell? ⟨w.heap.size, 1, none⟩ = some (.slice aB ah.length ad) := fun w' h => cell_of_row _ _ _ _ _ _ ((hW.trans h).blk hy1)
        have ea2 : ∀ w', Ext W w' → w'.cell? ⟨w.heap.size, 2, none⟩ = some (.bool ao) := fun w' h => cell_of_row _ _ _ _ _ _ ((hW.trans h).blk hy1)
        have eb0 : ∀ w', Ext W w' → w'.cell? ⟨w.heap.size + 1, 0, none⟩ = some (.slice bA b.length bc) := fun w' h => cell_of_row _ _ _ _ _ _ ((hW.trans h).blk hy2)
        have eb1 : ∀ w', Ext W w' → w'.cell? ⟨w.heap.size + 1, 1, none⟩ = some (.slice bB bh.length bd) := fun w' h => cell_of_row _ _ _ _ _ _ ((hW.trans h).blk hy2)
        have eb2 : ∀ w', Ext W w' → w'.cell? ⟨w.heap.size + 1, 2, none⟩ = some (.bool bo) := fun w' h => cell_of_row _ _ _ _ _ _ ((hW.trans h).blk hy2)
        have ec0 : ∀ w', Ext W w' → w'.cell? ⟨w2.heap.size, 0, none⟩ = some (.slice A1 r.lo.length c1) := fun w' h => cell_of_row _ _ _ _ _ _ ((hW.trans h).blk hb3)
        have ec1 : ∀ w', Ext W w' → w'.cell? ⟨w2.heap.size, 1, none⟩ = some (.slice B1 r.hi.length d1) := fun w' h => cell_of_row _ _ _ _ _ _ ((hW.trans h).blk hb3)
        have ec2 : ∀ w', Ext W w' → w'.cell? ⟨w2.heap.size, 2, none⟩ = some (.bool r.op) := fun w' h => cell_of_row _ _ _ _ _ _ ((hW.trans h).blk hb3)
        have ed0 : ∀ w', Ext W w' → w'.cell? ⟨w2.heap.size + 1, 0, none⟩ = some (.slice A2 z.lo.length c2) := fun w' h => cell_of_row _ _ _ _ _ _ ((hW.trans h).blk hb4)
        have ed1 : ∀ w', Ext W w' → w'.cell? ⟨w2.heap.size + 1, 1, none⟩ = some (.slice B2 z.hi.length d2) := fun w' h => cell_of_row _ _ _ _ _ _ ((hW.trans h).blk hb4)
        have ed2 : ∀ w', Ext W w' → w'.cell? ⟨w2.heap.size + 1, 2, none⟩ = some (.bool z.op) := fun w' h => cell_of_row _ _ _ _ _ _ ((hW.trans h).blk hb4)
        simp only [List.take_succ_cons, List.take_zero]
        repeat (first | (apply wpM_one; (case hg => rfl); (case hsp => rfl); (case hv => (intro w' hw'; go_simp; exact rfl)); simp only [Act.put, List.setIfInBounds_toArray, List.set_cons_succ, List.set_cons_zero]; try simp only [wrap_zero]) | (apply wpM_oneG; (case hw => rfl); (case hsp => rfl); (case hv => (intro w' hw'; go_simp; exact rfl)); simp only [Act.put, List.setIfInBounds_toArray, List.set_cons_succ, List.set_cons_zero]; try simp only [wrap_zero]) | (apply wpM_pass; (case hw => rfl); simp only [Act.put, List.setIfInBounds_toArray, List.set_cons_succ, List.set_cons_zero]; try simp only [wrap_zero]))
        refine wpM_new _ rfl rfl (fun V v => Stable.pure) (fun V V' h => rfl) (fun w' hw' hK => ?_) (fun v hv => ?_)
        · unfold mildAt; go_simp; rw [mildUpon_enter]
          refine ⟨Below.refl _ _, (has_any (s1.ext (hW.trans hw')) (s2.ext (hW.trans hw')) (hx.ext (hE1.trans hw')) rfl).mono ?_⟩
          rintro e w2 ⟨rfl, hE2⟩
          exact ⟨_, rfl, hE2, by rw [HL.out]⟩
        obtain ⟨_, _, _, rfl⟩ := hv
        simp only [Act.put, List.setIfInBounds_toArray, List.set_cons_succ, List.set_cons_zero]
        repeat (first | (apply wpM_one; (case hg => rfl); (case hsp => rfl); (case hv => (intro w' hw'; go_simp; exact rfl)); simp only [Act.put, List.setIfInBounds_toArray, List.set_cons_succ, List.set_cons_zero]; try simp only [wrap_zero]) | (apply wpM_oneG; (case hw => rfl); (case hsp => rfl); (case hv => (intro w' hw'; go_simp; exact rfl)); simp only [Act.put, List.setIfInBounds_toArray, List.set_cons_succ, List.set_cons_zero]; try simp only [wrap_zero]) | (apply wpM_pass; (case hw => rfl); simp only [Act.put, List.setIfInBounds_toArray, List.set_cons_succ, List.set_cons_zero]; try simp only [wrap_zero]))
        refine wpM_new _ rfl rfl (fun V v => Stable.pure) (fun V V' h => rfl) (fun w' hw' hK => ?_) (fun v hv => ?_)
        · unfold mildAt; go_simp; rw [mildUpon_enter]
          refine ⟨Below.refl _ _, (has_any (ha.ext (hE1.trans hw')) (hah.ext (hE1.trans hw')) (hx.ext (hE1.trans hw')) rfl).mono ?_⟩
          rintro e w2 ⟨rfl, hE2⟩
          exact ⟨_, rfl, hE2, by rw [HP.out]⟩
        obtain ⟨_, _, _, rfl⟩ := hv
        simp only [Act.put, List.setIfInBounds_toArray, List.set_cons_succ, List.set_cons_zero]
        repeat (first | (apply wpM_one; (case hg => rfl); (case hsp => rfl); (case hv => (intro w' hw'; go_simp; exact rfl)); simp only [Act.put, List.setIfInBounds_toArray, List.set_cons_succ, List.set_cons_zero]; try simp only [wrap_zero]) | (apply wpM_oneG; (case hw => rfl); (case hsp => rfl); (case hv => (intro w' hw'; go_simp; exact rfl)); simp only [Act.put, List.setIfInBounds_toArray, List.set_cons_succ, List.set_cons_zero]; try simp only [wrap_zero]) | (apply wpM_pass; (case hw => rfl); simp only [Act.put, List.setIfInBounds_toArray, List.set_cons_succ, List.set_cons_zero]; try simp only [wrap_zero]))
        refine wpM_newG _ rfl rfl (fun V v => Stable.pure) (fun V V' h => rfl) (fun w' hw' hK => ?_) (fun v hv => ?_)
        · unfold mildAt; go_simp; rw [mildUpon_enter]
          refine ⟨Below.refl _ _, (has_any (s3.ext (hW.trans hw')) (s4.ext (hW.trans hw')) (hx.ext (hE1.trans hw')) rfl).mono ?_⟩
          rintro e w2 ⟨rfl, hE2⟩
          exact ⟨_, rfl, hE2, by rw [HH.out]⟩
        obtain ⟨_, _, _, rfl⟩ := hv
        simp only [Act.put, List.setIfInBounds_toArray, List.set_cons_succ, List.set_cons_zero]
        repeat (first | (apply wpM_one; (case hg => rfl); (case hsp => rfl); (case hv => (intro w' hw'; go_simp; exact rfl)); simp only [Act.put, List.setIfInBounds_toArray, List.set_cons_succ, List.set_cons_zero]; try simp only [wrap_zero]) | (apply wpM_oneG; (case hw => rfl); (case hsp => rfl); (case hv => (intro w' hw'; go_simp; exact rfl)); simp only [Act.put, List.setIfInBounds_toArray, List.set_cons_succ, List.set_cons_zero]; try simp only [wrap_zero]) | (apply wpM_pass; (case hw => rfl); simp only [Act.put, List.setIfInBounds_toArray, List.set_cons_succ, List.set_cons_zero]; try simp only [wrap_zero]))
        refine wpM_newG _ rfl rfl (fun V v => Stable.pure) (fun V V' h => rfl) (fun w' hw' hK => ?_) (fun v hv => ?_)
        · unfold mildAt; go_simp; rw [mildUpon_enter]
          refine ⟨Below.refl _ _, (has_any (ha.ext (hE1.trans hw')) (hah.ext (hE1.trans hw')) (hx.ext (hE1.trans hw')) rfl).mono ?_⟩
          rintro e w2 ⟨rfl, hE2⟩
          exact ⟨_, rfl, hE2, by rw [HP.out]⟩
        obtain ⟨_, _, _, rfl⟩ := hv
        simp only [Act.put, List.setIfInBounds_toArray, List.set_cons_succ, List.set_cons_zero]
        repeat (first | (apply wpM_one; (case hg => rfl); (case hsp => rfl); (case hv => (intro w' hw'; go_simp; exact rfl)); simp only [Act.put, List.setIfInBounds_toArray, List.set_cons_succ, List.set_cons_zero]; try simp only [wrap_zero]) | (apply wpM_oneG; (case hw => rfl); (case hsp => rfl); (case hv => (intro w' hw'; go_simp; exact rfl)); simp only [Act.put, List.setIfInBounds_toArray, List.set_cons_succ, List.set_cons_zero]; try simp only [wrap_zero]) | (apply wpM_pass; (case hw => rfl); simp only [Act.put, List.setIfInBounds_toArray, List.set_cons_succ, List.set_cons_zero]; try simp only [wrap_zero]))
        apply wpM_nil
        apply hN
        intro w6 hE6 hK
        clear hK hN
        clear ea0 ea1 ea2 eb0 eb1 eb2 ec0 ec1 ec2 ed0 ed1 ed2
        go_wp2
        go_ret
        exact ⟨rfl, hE1.trans hE6⟩
set_option maxRecDepth 100000 in
theorem lifted (os : Os) (started : os.Started) (H : Type) (enc : TypeId × Value → H) :
    ReturnsInHanded {} Try.checked os 11 .any (Rows.spanSetsSpec.pre6 enc Try.prog Try.f11 Rows.spanSetsRow.domain false) (Rows.spanSetsSpec.post enc Try.prog Try.f11 false true false false) := by
  refine returnsInHanded_of_change_sized (C := Try.checked) own' started (by kernel_rfl) Try.func11
    (ChangeSpec.witness6 (enc := enc) (C := Try.checked) false ⟨#[], #[.agg #[.slice none 0 0, .slice none 0 0, .bool false], .agg #[.slice none 0 0, .slice none 0 0, .bool false], .slice none 0 0], []⟩ 8 (by kernel_rfl) (by kernel_rfl) (by kernel_rfl) (by kernel_rfl)) ?_
  intro W base args ds gs before hval0 hW hcnd hsz0 _
  have hval : ∀ (j : Nat) t v, Try.f11.params[j]? = some t → args[j]? = some v → Value.okWide Try.prog W .any base t v := hval0
  have hsz : (DataW.weightsEach Try.prog (Try.f11.params.toList ++ Rows.spanSetsSpec.plain.varTypes Try.prog) (ds ++ gs)).all (· ≤ reachBytes) = true := hsz0
  have hW' := hW
  obtain ⟨p, q, hA0, hV, rfl, hfz, hnd⟩ := hW
  have hA : DataW.TrodAll enc Try.prog W 0 (fun _ => true) true Try.f11.params.toList args.toList ds p := hA0
  rw [Try.params11] at hA hval hsz
  obtain ⟨v0, vs0, d0, ds0, p0, q0, hargs, rfl, rfl, h0, r0⟩ := trodAll_cons hA
  obtain ⟨v1, vs1, d1, ds1, p1, q1, rfl, rfl, rfl, h1, r1⟩ := trodAll_cons r0
  obtain ⟨v2, vs2, d2, ds2, p2, q2, rfl, rfl, rfl, h2, r2⟩ := trodAll_cons r1
  obtain ⟨rfl, rfl, rfl⟩ := trodAll_nil r2
  obtain rfl : args = #[v0, v1, v2] := by cases args; simp_all
  obtain ⟨rfl, rfl⟩ := trodVars_none hV
  have lt0 : ∀ x ∈ p0, x.block < W.heap.size := by obtain ⟨m, hm⟩ := h0; exact DataW.trod_lt m _ _ _ hm
  obtain ⟨la0, lc0, ha0, hc0, lo0, hi0, op0, rfl, s0, t0⟩ := range_of_trod (hval 0 32 v0 rfl rfl) h0 (fun n hn => List.all_eq_true.1 hsz _ (DataW.weights_mem_each (j := 0) (t := 32) rfl rfl n hn))
  have lt1 : ∀ x ∈ p1, x.block < W.heap.size := by obtain ⟨m, hm⟩ := h1; exact DataW.trod_lt m _ _ _ hm
  obtain ⟨la1, lc1, ha1, hc1, lo1, hi1, op1, rfl, s1, t1⟩ := range_of_trod (hval 1 32 v1 rfl rfl) h1 (fun n hn => List.all_eq_true.1 hsz _ (DataW.weights_mem_each (j := 1) (t := 32) rfl rfl n hn))
  obtain ⟨a2, len2, cap2, rfl⟩ := okWide_slice Try.underlying22 (hval 2 22 v2 rfl rfl)
  have lt2 : ∀ x ∈ p2, x.block < W.heap.size := by obtain ⟨m, hm⟩ := h2; exact DataW.trod_lt m _ _ _ hm
  obtain ⟨b2, rfl, rd2, le2, _, sz2⟩ := sl_of_trod rfl h2
  have s2 : Sl W a2 cap2 b2 := Sl.of_size rd2 le2 (by
    rcases sz2 with ⟨_, h⟩ | ⟨el, sp, he, h⟩
    · rw [h]; exact Nat.zero_le _
    · have := sized_slice hsz (j := 2) (t := 22) (e := 5) rfl (by rw [he]; rfl) Try.underlying22
      rwa [bytesU8, Nat.mul_one, h] at this)
  clear hA0 hval0
  refine (walk s0 t0 s1 t1 s2).mono fun e W' ⟨he, bel⟩ => ?_
  subst he
  exact ⟨_, rfl, _, _, _, [], _, [], hW', trodAll_mk1 (shut_bool Try.underlying4 _), (trodAll_cons_mk (Below.trod laidOut' (by kernel_rfl) (of_decide_eq_true (by kernel_rfl)) h0 bel lt0) (trodAll_cons_mk (Below.trod laidOut' (by kernel_rfl) (of_decide_eq_true (by kernel_rfl)) h1 bel lt1) (trodAll_cons_mk (Below.trod laidOut' (by kernel_rfl) (of_decide_eq_true (by kernel_rfl)) h2 bel lt2) trodAll_mk0))), rfl, bel.frame _, fun h => by cases h⟩
theorem over : Rows.spanSetsRow.holds Try.pinned (OpenSpec.ofChange Rows.spanSetsSpec) :=
  OpenClaim.holds_of_wide 11 Try.f11 rfl rfl rfl rfl rfl rfl rfl ⟨rfl, rfl, rfl, rfl, rfl⟩ rfl rfl rfl rfl rfl (by kernel_rfl) Try.func11 (by kernel_rfl)
    (of_decide_eq_true (by kernel_rfl)) (by unfold Func.isWrapper; first | (rw [if_pos (by decide +kernel)]; kernel_rfl) | (rw [if_neg (by decide +kernel)]; exact ⟨rfl, rfl⟩))
    (fun os started H enc _ => lifted os started H enc)
/-- The statement. -/
theorem proved : Rows.SpanSetsSaid := over
#print axioms proved
end Go.Proofs.Ytijlaknfagpglaa.spanSets
