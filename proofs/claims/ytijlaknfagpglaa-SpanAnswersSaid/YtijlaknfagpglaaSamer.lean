/- The laws' sameRanges over any two rows. No condition but sizes. -/
import Derived.Test.YtijlaknfagpglaaCovm
import Derived.Test.YtijlaknfagpglaaEqrg
import Derived.Test.YtijlaknfagpglaaMild
import Derived.Test.YtijlaknfagpglaaMildg
namespace Go.Proofs.Ytijlaknfagpglaa
open Go.RowKit Go.Proofs
set_option linter.unusedVariables false
theorem eqR3_iff (f g : Fr) : eqR3 f.lo f.hi f.op g.lo g.hi g.op = decide (rg f = rg g) := by
  rw [Bool.eq_iff_iff, decide_eq_true_eq]
  unfold eqR3
  simp only [Bool.and_eq_true, beq_iff_eq, Rg.mk.injEq]
  constructor
  · rintro ⟨⟨h1, h2⟩, h3⟩
    exact ⟨of_decide_eq_true h2, of_decide_eq_true h3, h1⟩
  · rintro ⟨h1, h2, h3⟩
    exact ⟨⟨h3, decide_eq_true h1⟩, decide_eq_true h2⟩
set_option maxHeartbeats 4000000 in
theorem sameRanges_any {A B : Option Addr} {c d n m : Nat} {fs gs : List Fr} {w : World} (h : RowR w A fs) (k : RowR w B gs) (hn : n = fs.length) (hm : m = gs.length) (hsz : n ≤ 1048576) (hsz2 : m ≤ 1048576) :
    Calls Try.prog 29 #[.slice A n c, .slice B m d] w fun e w' => e = .returned (.bool (decide (fs.map rg = gs.map rg))) ∧ Ext w w' := by
  go_enter Try.func29, Try.ntmps29
  by_cases hnm : n = m
  · subst hnm
    have HN := Lib.hid hn
    have HM := Lib.hid hm
    clear hn hm
    go_wp2
    go_loopw [5] (fun ii wr => ∃ i : Nat, i ≤ n ∧ ii = .int .i64 i ∧ Hid ((fs.take i).map rg = (gs.take i).map rg) ∧ Ext w wr) (fun ii _ => n - (intOf ii).toNat)
    case atStart => exact ⟨0, Nat.zero_le _, rfl, Lib.hid rfl, Below.refl _ _⟩
    case round =>
      obtain ⟨i, hin, rfl, HT, hE⟩ := hrel
      by_cases hlt : i < n
      · have hki : (i : Int) < (n : Int) := by omega
        obtain ⟨g, o, rfl, hrd⟩ := h.rd (by have := HN.out; omega)
        obtain ⟨g', o', rfl, hrd'⟩ := k.rd (by have := HM.out; omega)
        obtain ⟨f, hf⟩ : ∃ f, fs[i]? = some f := ⟨_, List.getElem?_eq_getElem (by have := HN.out; omega)⟩
        obtain ⟨f', hf'⟩ : ∃ f, gs[i]? = some f := ⟨_, List.getElem?_eq_getElem (by have := HM.out; omega)⟩
        have k1 := (hrd i f hf).ext hE
        have k2 := (hrd' i f' hf').ext hE
        obtain ⟨s1, s2⟩ := h.ls f (List.mem_of_getElem? hf)
        obtain ⟨s3, s4⟩ := k.ls f' (List.mem_of_getElem? hf')
        have hq := eqR3_iff f f'
        have HT1 := Lib.hid (show (fs.take (i + 1)).map rg = (fs.take i).map rg ++ [rg f] by rw [List.take_add_one, hf]; simp)
        have HT2 := Lib.hid (show (gs.take (i + 1)).map rg = (gs.take i).map rg ++ [rg f'] by rw [List.take_add_one, hf']; simp)
        have HNE := Lib.hid (show rg f ≠ rg f' → fs.map rg ≠ gs.map rg from fun h1 h2 => h1 (by
          have h3 := congrArg (fun l => l[i]?) h2
          simpa [hf, hf'] using h3))
        clear hf hf' hrd hrd'
        have a0 := k1.c0
        have a1 := k1.c1
        have a2 := k1.c2
        have b0 := k2.c0
        have b1 := k2.c1
        have b2 := k2.c2
        obtain ⟨q, hqq⟩ : ∃ q, decide (rg f = rg f') = q := ⟨_, rfl⟩
        rw [hqq] at hq
        have HQQ := Lib.hid hqq
        clear hqq
        have HQ := Lib.hid hq
        clear hq k1 k2
        obtain ⟨lA, lc, lo, hA, hc, hi, op⟩ := f
        obtain ⟨mA, mc, mo, jA, jc, ji, oq⟩ := f'
        dsimp only at a0 a1 a2 b0 b1 b2 s1 s2 s3 s4
        go_wp2
        refine wp_region_mild 9 (fun i => match i with
          | 8 => some fun _ v w' => v = .bool q
          | _ => none) (by kernel_rfl) (by kernel_rfl) (fun W N hW hN => ?_)
        have ea0 : ∀ w', Ext W w' → w'.cell? ⟨g, o + i * 3, none⟩ = some (.slice lA lo.length lc) := fun w' h => (hW.trans h).cell a0
        have ea1 : ∀ w', Ext W w' → w'.cell? ⟨g, o + i * 3 + 1, none⟩ = some (.slice hA hi.length hc) := fun w' h => (hW.trans h).cell a1
        have ea2 : ∀ w', Ext W w' → w'.cell? ⟨g, o + i * 3 + 2, none⟩ = some (.bool op) := fun w' h => (hW.trans h).cell a2
        have eb0 : ∀ w', Ext W w' → w'.cell? ⟨g', o' + i * 3, none⟩ = some (.slice mA mo.length mc) := fun w' h => (hW.trans h).cell b0
        have eb1 : ∀ w', Ext W w' → w'.cell? ⟨g', o' + i * 3 + 1, none⟩ = some (.slice jA ji.length jc) := fun w' h => (hW.trans h).cell b1
        have eb2 : ∀ w', Ext W w' → w'.cell? ⟨g', o' + i * 3 + 2, none⟩ = some (.bool oq) := fun w' h => (hW.trans h).cell b2
        have hEW := hE.trans hW
        clear a0 a1 a2 b0 b1 b2
        simp only [List.take_succ_cons, List.take_zero]
        repeat (first | (apply wpM_one; (case hg => rfl); (case hsp => rfl); (case hv => (intro w' hw'; go_simp; exact rfl)); simp only [Act.put, List.setIfInBounds_toArray, List.set_cons_succ, List.set_cons_zero]; try simp only [wrap_zero]) | (apply wpM_oneG; (case hw => rfl); (case hsp => rfl); (case hv => (intro w' hw'; go_simp; exact rfl)); simp only [Act.put, List.setIfInBounds_toArray, List.set_cons_succ, List.set_cons_zero]; try simp only [wrap_zero]) | (apply wpM_pass; (case hw => rfl); simp only [Act.put, List.setIfInBounds_toArray, List.set_cons_succ, List.set_cons_zero]; try simp only [wrap_zero]))
        refine wpM_new _ rfl rfl (fun V v => Stable.pure) (fun V V' h => rfl) (fun w' hw' hK => ?_) (fun v hv => ?_)
        · unfold mildAt; go_simp; rw [mildUpon_enter]
          refine ⟨Below.refl _ _, (eqRange_any (s1.ext (hEW.trans hw')) (s2.ext (hEW.trans hw')) (s3.ext (hEW.trans hw')) (s4.ext (hEW.trans hw')) rfl rfl rfl rfl).mono ?_⟩
          rintro e w2 ⟨rfl, hE2⟩
          exact ⟨_, rfl, hE2, by rw [HQ.out]⟩
        obtain ⟨_, _, _, rfl⟩ := hv
        simp only [Act.put, List.setIfInBounds_toArray, List.set_cons_succ, List.set_cons_zero]
        repeat (first | (apply wpM_one; (case hg => rfl); (case hsp => rfl); (case hv => (intro w' hw'; go_simp; exact rfl)); simp only [Act.put, List.setIfInBounds_toArray, List.set_cons_succ, List.set_cons_zero]; try simp only [wrap_zero]) | (apply wpM_oneG; (case hw => rfl); (case hsp => rfl); (case hv => (intro w' hw'; go_simp; exact rfl)); simp only [Act.put, List.setIfInBounds_toArray, List.set_cons_succ, List.set_cons_zero]; try simp only [wrap_zero]) | (apply wpM_pass; (case hw => rfl); simp only [Act.put, List.setIfInBounds_toArray, List.set_cons_succ, List.set_cons_zero]; try simp only [wrap_zero]))
        apply wpM_nil
        apply hN
        intro w10 hE10 hK
        clear hK hN ea0 ea1 ea2 eb0 eb1 eb2
        have hE11 := hEW.trans hE10
        clear hE10 hW hEW hE s1 s2 s3 s4
        cases q with
        | true =>
          have HT3 := Lib.hid (show (fs.take (i + 1)).map rg = (gs.take (i + 1)).map rg by rw [HT1.out, HT2.out, HT.out, show rg _ = rg _ from of_decide_eq_true HQQ.out])
          go_wp2
          go_roundw
          case rel => exact ⟨i + 1, by omega, by go_num, HT3, hE11⟩
          case measure => simp [intOf]; omega
        | false =>
          have HR := Lib.hid (show decide (fs.map rg = gs.map rg) = false from decide_eq_false (HNE.out (of_decide_eq_false HQQ.out)))
          go_wp2
          go_ret
          exact ⟨ret_bool (by rw [HR.out]), hE11⟩
      · have hki : ¬ (i : Int) < (n : Int) := by omega
        have HR := Lib.hid (show decide (fs.map rg = gs.map rg) = true from decide_eq_true (by
          have h1 := HT.out
          rwa [List.take_of_length_le (by have := HN.out; omega), List.take_of_length_le (by have := HM.out; omega)] at h1))
        go_wp2
        go_ret
        exact ⟨ret_bool (by rw [HR.out]), hE⟩
  · have hnmi : ¬ (n : Int) = (m : Int) := by omega
    have HR := Lib.hid (show decide (fs.map rg = gs.map rg) = false from decide_eq_false (fun h9 => hnm (by
      have h1 := congrArg List.length h9
      rw [List.length_map, List.length_map] at h1
      omega)))
    go_wp2
    go_ret
    exact ⟨ret_bool (by rw [HR.out]), Below.refl _ _⟩
end Go.Proofs.Ytijlaknfagpglaa
