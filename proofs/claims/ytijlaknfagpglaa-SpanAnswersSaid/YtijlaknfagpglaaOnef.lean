/- The walk of the law SpanOneForm. No condition but sizes. -/
import Derived.Test.YtijlaknfagpglaaCovw
import Derived.Test.YtijlaknfagpglaaSamer
import Derived.Test.YtijlaknfagpglaaSpanj
import Derived.Test.YtijlaknfagpglaaSpand
namespace Go.Proofs.Ytijlaknfagpglaa
open Go.RowKit Go.Proofs
set_option linter.unusedVariables false
set_option linter.unusedSimpArgs false
theorem rowR_of {B C n c : Nat} {A : Option Addr} {w : World} {fs : List Fr} (k : w.ownsRow B 32 3 (.slice A n c) fs.length (fs.flatMap c3)) (h : ∀ f ∈ fs, Sl w f.lA f.lc f.lo ∧ Sl w f.hA f.hc f.hi) : RowR w A fs := by
  refine ⟨fun hn => ?_, h⟩
  obtain ⟨g, cap, hv, _⟩ := World.ownsRow.form k hn
  injection hv with h1 h2 h3
  subst h1 h2 h3
  exact ⟨g, 0, rfl, fun i f hf => by rw [Nat.zero_add]; exact two_at k hf⟩
theorem OwnL.rowR {B C n c : Nat} {A : Option Addr} {w : World} {fs : List Fr} (h : OwnL C w fs) (k : w.ownsRow B 32 3 (.slice A n c) fs.length (fs.flatMap c3)) : RowR w A fs :=
  rowR_of (C := C) k fun f hf => h.sl hf
theorem RowR.take {w : World} {A : Option Addr} {fs : List Fr} (h : RowR w A fs) (k : Nat) : RowR w A (fs.take k) := by
  refine ⟨fun hn => ?_, fun f hf => h.ls f (List.mem_of_mem_take hf)⟩
  obtain ⟨g, o, hA, h1⟩ := h.rd (by rw [List.length_take] at hn; omega)
  refine ⟨g, o, hA, fun i f hf => h1 i f ?_⟩
  rw [List.getElem?_take] at hf
  split at hf
  · exact hf
  · cases hf
theorem RowR.one {w : World} {g o i : Nat} {fs : List Fr} {f : Fr} (h : RowR w (some ⟨g, o, none⟩) fs) (hf : fs[i]? = some f) : RowR w (some ⟨g, o + i * 3, none⟩) [f] := by
  refine ⟨fun _ => ?_, fun t ht => by rw [List.mem_singleton.1 ht]; exact h.ls f (List.mem_of_getElem? hf)⟩
  obtain ⟨g', o', hA, h1⟩ := h.rd (by have := (List.getElem?_eq_some_iff.1 hf).1; omega)
  injection hA with hA
  injection hA with e1 e2
  subst e1 e2
  refine ⟨g, o + i * 3, rfl, fun j t ht => ?_⟩
  match j, ht with
  | 0, ht =>
    obtain rfl : f = t := by simpa using ht
    exact h1 i f hf
/-- The number of ranges that hold a key, step by step. -/
theorem count_step {os : List Fr} {i : Nat} {f : Fr} (hf : os[i]? = some f) (x : List UInt8) : ((os.take (i + 1)).map rg).countP (fun r => hasB r x) = ((os.take i).map rg).countP (fun r => hasB r x) + if hasB (rg f) x then 1 else 0 := by
  rw [List.take_add_one, hf]
  simp [List.countP_append, List.countP_cons, List.countP_nil]
theorem drop_step {rs : List Fr} {t : Nat} {f : Fr} (hf : rs[t]? = some f) : rs.drop t = f :: rs.drop (t + 1) := by
  obtain ⟨h1, h2⟩ := List.getElem?_eq_some_iff.1 hf
  rw [← h2]
  exact List.drop_eq_getElem_cons h1
theorem anyB_rev (a : List Rg) (x : List UInt8) : anyB a.reverse x = anyB a x := by simp [anyB]
/-- What Cover answers to one range. -/
def CV (r : Rg) (v : Value) (w : World) : Prop := ∃ A c os, v = .slice A os.length c ∧ RowR w A os ∧ os.map rg = (formB r).toList ∧ os.length ≤ 1
theorem CV.stable (r : Rg) (v : Value) : Stable (CV r v) := fun w w' ⟨A, c, os, h1, h2, h3⟩ he => ⟨A, c, os, h1, h2.ext he, h3⟩
theorem form_toList (a b : Rg) : decide ((formB a).toList = (formB b).toList) = equalB a b := by
  unfold equalB
  rw [decide_eq_decide]
  cases formB a <;> cases formB b <;> simp
theorem form_empty (a : Rg) : emptyB a = decide ((formB a).toList.length = 0) := by
  unfold emptyB formB
  cases hasB a (fromB a.lo) <;> simp
set_option maxRecDepth 8000 in
set_option maxHeartbeats 8000000 in
theorem oneForm_any {A C : Option Addr} {cap f : Nat} {l : List Fr} {xs : List UInt8} {w : World} (h0 : RowR w A l) (hcap : l.length ≤ cap) (hcm : cap ≤ 9223372036854775807) (hx : Sl w C f xs) :
    Calls Try.prog 10 #[.slice A l.length cap, .slice C xs.length f] w fun e w' => e = .returned (.bool true) ∧ Ext w w' := by
  obtain ⟨i0, hti, hz0, hz1, hz2⟩ := info_parts infoRg
  obtain ⟨m, hm⟩ : ∃ m : Nat, min l.length 200 = m := ⟨_, rfl⟩
  have hmi : min (l.length : Int) 200 = (m : Int) := by omega
  have hm2 : m ≤ 200 := by omega
  have hml : m ≤ l.length := by omega
  have hmc : m ≤ cap := by omega
  obtain ⟨rs, hrs⟩ : ∃ rs, l.take m = rs := ⟨_, rfl⟩
  have hrl : rs.length = m := by rw [← hrs, List.length_take]; omega
  have h : RowR w A rs := by rw [← hrs]; exact h0.take m
  have HRL := Lib.hid hrl
  clear hrs hrl h0 hm
  go_enter Try.func10, Try.ntmps10
  go_wp2_with fail
  refine fixed_any.mono ?_
  rintro e w1 ⟨rfl, hE1⟩
  go_wp2_with fail
  refine (cover_any (h.ext hE1) HRL.out.symm (by omega)).mono ?_
  rintro e w2 ⟨v, os, rfl, hro, hOo, hCo, hol, hE2⟩
  obtain ⟨Ao, co, rfl⟩ := slice_of_own hro
  have hE3 := hE1.trans hE2
  have hR2 := hOo.rowR hro
  obtain ⟨n, hn⟩ : ∃ n, os.length = n := ⟨_, rfl⟩
  rw [hn] at hro hol ⊢
  have HNO := Lib.hid hn
  have HCO := Lib.hid hCo
  have HOO := Lib.hid hOo
  have HRO := Lib.hid hro
  clear hE1 hE2 hCo hn hOo hro
  go_wp2
  go_loopw [6, 8] (fun hh ii wr => ∃ i : Nat, i ≤ n ∧ ii = .int .i64 i ∧ (∃ q : Nat, q ≤ i ∧ hh = .int .i64 q ∧ Hid (((os.take i).map rg).countP (fun r => hasB r xs) = q)) ∧ Ext w2 wr) (fun hh ii _ => n - (intOf ii).toNat)
  case atStart => exact ⟨0, Nat.zero_le _, rfl, ⟨0, Nat.le_refl _, rfl, Lib.hid rfl⟩, Below.refl _ _⟩
  case round =>
    obtain ⟨i, hin, rfl, ⟨q, hqi, rfl, HQ⟩, hE⟩ := hrel
    by_cases hlt : i < n
    · have hki : (i : Int) < (n : Int) := by omega
      obtain ⟨g, o, rfl, hrd⟩ := hR2.rd (by have := HNO.out; omega)
      obtain ⟨t, ht⟩ : ∃ t, os[i]? = some t := ⟨_, List.getElem?_eq_getElem (by have := HNO.out; omega)⟩
      have k1 := (hrd i t ht).ext hE
      obtain ⟨s1, s2⟩ := hR2.ls t (List.mem_of_getElem? ht)
      have HQ1 := Lib.hid (count_step ht xs)
      clear ht hrd
      obtain ⟨b, hb⟩ : ∃ b, hasB (rg t) xs = b := ⟨_, rfl⟩
      have HB := Lib.hid hb
      have a0 := k1.c0
      have a1 := k1.c1
      have a2 := k1.c2
      obtain ⟨lA, lc, lo, hA, hc, hi, op⟩ := t
      dsimp only at a0 a1 a2 s1 s2
      clear hb
      go_wp2_with fail
      refine (has_any (s1.ext hE) (s2.ext hE) (hx.ext (hE3.trans hE)) rfl).mono ?_
      rintro e w3 ⟨rfl, hE4⟩
      rw [show hasB ⟨lo, hi, op⟩ xs = b from HB.out]
      have hE5 := hE.trans hE4
      cases b with
      | true =>
        have HQ2 := Lib.hid (show ((os.take (i + 1)).map rg).countP (fun r => hasB r xs) = q + 1 by rw [HQ1.out, HQ.out, HB.out]; rfl)
        go_wp2
        go_roundw
        case rel => exact ⟨i + 1, by omega, by go_num, ⟨q + 1, by omega, by go_num, HQ2⟩, hE5⟩
        case measure => simp [intOf]; omega
      | false =>
        have HQ2 := Lib.hid (show ((os.take (i + 1)).map rg).countP (fun r => hasB r xs) = q by rw [HQ1.out, HQ.out, HB.out]; rfl)
        go_wp2
        go_roundw
        case rel => exact ⟨i + 1, by omega, by go_num, ⟨q, by omega, rfl, HQ2⟩, hE5⟩
        case measure => simp [intOf]; omega
    · have hki : ¬ (i : Int) < (n : Int) := by omega
      have HQ2 := Lib.hid (show q = if anyB (rs.map rg) xs then 1 else 0 by
        have h1 := HQ.out
        rw [List.take_of_length_le (by have := HNO.out; omega), canon_count HCO.out.canon] at h1
        rw [← h1]
        by_cases hk : isKeyB xs = true
        · rw [HCO.out.any xs hk]
        · have e1 : ∀ cs : List Rg, anyB cs xs = false := fun cs => by
            cases h9 : anyB cs xs with
            | false => rfl
            | true =>
              obtain ⟨r, _, h8⟩ := anyB_iff.1 h9
              exact absurd ((hasB_iff _ _).1 h8).1 hk
          rw [e1, e1])
      clear HQ hlt hin
      go_wp2
      clear hki hqi
      go_loopw [7, 9, 10] (fun nn bb jj wr => ∃ (t : Nat) (j : Int), t ≤ m ∧ jj = .int .i64 j ∧ j + 1 = (t : Int) ∧ (∃ p : Nat, nn = .int .i64 p ∧ Hid (p = if anyB ((rs.drop t).map rg) xs then 1 else 0)) ∧ wr.ownsRow w2.heap.size 32 3 bb (rs.drop t).reverse.length ((rs.drop t).reverse.flatMap c3) ∧ Ext w2 wr) (fun nn bb jj _ => (intOf jj + 1).toNat)
      case atStart =>
        have e1 : rs.drop m = [] := List.drop_of_length_le (by have := HRL.out; omega)
        refine ⟨m, (m : Int) - 1, Nat.le_refl _, by go_num, by omega, ⟨0, rfl, Lib.hid (by rw [e1]; rfl)⟩, ?_, hE⟩
        rw [e1]
        exact owned_nil _ _ _ _
      case round =>
        clear hE
        rename World => wq
        obtain ⟨t, j, htm, rfl, hjt, ⟨p, rfl, HP⟩, ho, hE⟩ := hrel
        by_cases ht0 : t = 0
        · subst ht0
          obtain rfl : j = -1 := by omega
          have HP2 := Lib.hid (show p = q by rw [HQ2.out, HP.out, List.drop_zero])
          rw [List.drop_zero] at ho
          obtain ⟨Ab, cb, rfl⟩ := slice_of_own ho
          have hEq := hE3.trans hE
          have hRb := rowR_of (C := 0) ho (fun f hf => by
            have h9 := h.ls f (by simpa using hf)
            exact ⟨h9.1.ext hEq, h9.2.ext hEq⟩)
          obtain ⟨lb, hlb⟩ : ∃ q, rs.reverse.length = q := ⟨_, rfl⟩
          have hlm : lb ≤ 200 := by rw [← hlb, List.length_reverse]; have := HRL.out; omega
          rw [hlb] at ho ⊢
          have HLB := Lib.hid hlb
          obtain rfl : p = q := HP2.out
          clear hlb hjt htm ho
          go_wp2_with fail
          refine (cover_any (hR2.ext hE) HNO.out.symm (by omega)).mono ?_
          rintro e w3 ⟨v, os2, rfl, ho2, hO2, hC2, hl2, hE4⟩
          obtain ⟨A2, c2, rfl⟩ := slice_of_own ho2
          have H2 := Lib.hid (show os2.map rg = os.map rg from hC2.uniq (CovOf.self HCO.out.canon))
          have hR3 := hO2.rowR ho2
          clear ho2 hO2 hC2
          go_wp2_with fail
          refine (sameRanges_any hR3 ((hR2.ext hE).ext hE4) rfl HNO.out.symm (by omega) (by omega)).mono ?_
          rintro e w4 ⟨rfl, hE5⟩
          rw [show decide (os2.map rg = os.map rg) = true from decide_eq_true H2.out]
          have hE6 := (hE.trans hE4).trans hE5
          have hRb4 := (hRb.ext hE4).ext hE5
          clear hR3 hE4 hE5 hRb
          go_wp2_with fail
          refine (cover_any hRb4 HLB.out.symm (by omega)).mono ?_
          rintro e w5 ⟨v3, os3, rfl, ho3, hO3, hC3, hl3, hE7⟩
          obtain ⟨A3, c5, rfl⟩ := slice_of_own ho3
          have H3 := Lib.hid (show os3.map rg = os.map rg from hC3.same HCO.out (fun x _ => by rw [List.map_reverse, anyB_rev]))
          have hR3 := hO3.rowR ho3
          clear ho3 hO3 hC3
          go_wp2_with fail
          refine (sameRanges_any hR3 ((hR2.ext hE6).ext hE7) rfl HNO.out.symm (by omega) (by omega)).mono ?_
          rintro e w6 ⟨rfl, hE8⟩
          rw [show decide (os3.map rg = os.map rg) = true from decide_eq_true H3.out]
          have hE9 := (hE3.trans hE6).trans (hE7.trans hE8)
          clear hR3 hE6 hE7 hE8 hRb4 H2 H3 hl2 hl3 HP HP2 HQ2 hE hEq hR2
          go_wp2
          go_loopw [11] (fun ii wr => ∃ i : Nat, i ≤ m ∧ ii = .int .i64 i ∧ Ext w wr) (fun ii _ => m - (intOf ii).toNat)
          case atStart => exact ⟨0, Nat.zero_le _, rfl, hE9⟩
          case round =>
            clear hE9
            obtain ⟨i, him, rfl, hE⟩ := hrel
            obtain ⟨i1, hi1⟩ : ∃ k, i + 1 = k := ⟨_, rfl⟩
            have hi1i : (i : Int) + 1 = (i1 : Int) := by omega
            have iw1 : IntKind.i64.wrap (i1 : Int) = (i1 : Int) := IntWalk.i64_in _ (by omega)
            by_cases hlt : i1 < m
            · have hki : (i1 : Int) < (m : Int) := by omega
              obtain ⟨i2, hi2⟩ : ∃ k, i + 2 = k := ⟨_, rfl⟩
              have hi2i : (i : Int) + 2 = (i2 : Int) := by omega
              have iw2 : IntKind.i64.wrap (i2 : Int) = (i2 : Int) := IntWalk.i64_in _ (by omega)
              obtain ⟨g, o, rfl, hrd⟩ := h.rd (by have := HRL.out; omega)
              obtain ⟨f1, hf1⟩ : ∃ f, rs[i]? = some f := ⟨_, List.getElem?_eq_getElem (by have := HRL.out; omega)⟩
              obtain ⟨f2, hf2⟩ : ∃ f, rs[i1]? = some f := ⟨_, List.getElem?_eq_getElem (by have := HRL.out; omega)⟩
              have r1 := (h.one hf1).ext hE
              have r2 := (h.one hf2).ext hE
              have k1 := (hrd i f1 hf1).ext hE
              have k2 := (hrd i1 f2 hf2).ext hE
              have hii1 : (i : Int) ≤ (i1 : Int) := by omega
              have hi12 : (i1 : Int) ≤ (i2 : Int) := by omega
              have hi2c : (i2 : Int) ≤ (cap : Int) := by omega
              have hi1c : (i1 : Int) ≤ (cap : Int) := by omega
              have hs1 : (i1 : Int) - (i : Int) = 1 := by omega
              have hs2 : (i2 : Int) - (i1 : Int) = 1 := by omega
              have hn1 : i1 - i = 1 := by omega
              have hn2 : i2 - i1 = 1 := by omega
              have hci : ¬ cap = i := by omega
              have hci1 : ¬ cap = i1 := by omega
              have HF1 := Lib.hid (And.intro hf1 hf2)
              clear hf1 hf2 hrd hi1 hi2
              go_wp2
              refine wp_region_mild 14 (fun i => match i with
                | 5 => some fun _ v w' => CV (rg f1) v w'
                | 12 => some fun _ v w' => CV (rg f2) v w'
                | _ => none) (by kernel_rfl) (by kernel_rfl) (fun W N hW hN => ?_)
              have hEW := hE.trans hW
              simp only [List.take_succ_cons, List.take_zero]
              repeat (first | (apply wpM_one; (case hg => rfl); (case hsp => rfl); (case hv => (intro w' hw'; go_simp; exact rfl)); simp only [Act.put, List.setIfInBounds_toArray, List.set_cons_succ, List.set_cons_zero]; try simp only [wrap_zero]) | (apply wpM_oneG; (case hw => rfl); (case hsp => rfl); (case hv => (intro w' hw'; go_simp; exact rfl)); simp only [Act.put, List.setIfInBounds_toArray, List.set_cons_succ, List.set_cons_zero]; try simp only [wrap_zero]) | (apply wpM_pass; (case hw => rfl); simp only [Act.put, List.setIfInBounds_toArray, List.set_cons_succ, List.set_cons_zero]; try simp only [wrap_zero]))
              refine wpM_new _ rfl rfl (fun V v => CV.stable _ v) (fun V V' h => rfl) (fun w' hw' hK => ?_) (fun v hv => ?_)
              · unfold mildAt; go_simp; rw [mildUpon_enter]
                try rw [if_neg hci]
                have hcv := cover_any (n := 1) (cap := cap - i) ((r1.ext hW).ext hw') rfl (by omega)
                refine ⟨Below.refl _ _, hcv.mono ?_⟩
                rintro e w2 ⟨v, os9, rfl, ho9, hO9, hC9, hl9, hE2⟩
                obtain ⟨A9, c9, rfl⟩ := slice_of_own ho9
                exact ⟨_, rfl, hE2, A9, c9, os9, rfl, hO9.rowR ho9, hC9.uniq (CovOf.one _), by omega⟩
              obtain ⟨_, _, _, A1, c1, os1, rfl, _, _, hl1⟩ := hv
              simp only [Act.put, List.setIfInBounds_toArray, List.set_cons_succ, List.set_cons_zero]
              repeat (first | (apply wpM_one; (case hg => rfl); (case hsp => rfl); (case hv => (intro w' hw'; go_simp; exact rfl)); simp only [Act.put, List.setIfInBounds_toArray, List.set_cons_succ, List.set_cons_zero]; try simp only [wrap_zero]) | (apply wpM_oneG; (case hw => rfl); (case hsp => rfl); (case hv => (intro w' hw'; go_simp; exact rfl)); simp only [Act.put, List.setIfInBounds_toArray, List.set_cons_succ, List.set_cons_zero]; try simp only [wrap_zero]) | (apply wpM_pass; (case hw => rfl); simp only [Act.put, List.setIfInBounds_toArray, List.set_cons_succ, List.set_cons_zero]; try simp only [wrap_zero]))
              refine wpM_new _ rfl rfl (fun V v => CV.stable _ v) (fun V V' h => rfl) (fun w' hw' hK => ?_) (fun v hv => ?_)
              · unfold mildAt; go_simp; rw [mildUpon_enter]
                try rw [if_neg hci1]
                have hcv := cover_any (n := 1) (cap := cap - i1) ((r2.ext hW).ext hw') rfl (by omega)
                refine ⟨Below.refl _ _, hcv.mono ?_⟩
                rintro e w2 ⟨v, os9, rfl, ho9, hO9, hC9, hl9, hE2⟩
                obtain ⟨A9, c9, rfl⟩ := slice_of_own ho9
                exact ⟨_, rfl, hE2, A9, c9, os9, rfl, hO9.rowR ho9, hC9.uniq (CovOf.one _), by omega⟩
              obtain ⟨_, _, _, A2, c2, os2, rfl, _, _, hl2⟩ := hv
              simp only [Act.put, List.setIfInBounds_toArray, List.set_cons_succ, List.set_cons_zero]
              repeat (first | (apply wpM_one; (case hg => rfl); (case hsp => rfl); (case hv => (intro w' hw'; go_simp; exact rfl)); simp only [Act.put, List.setIfInBounds_toArray, List.set_cons_succ, List.set_cons_zero]; try simp only [wrap_zero]) | (apply wpM_oneG; (case hw => rfl); (case hsp => rfl); (case hv => (intro w' hw'; go_simp; exact rfl)); simp only [Act.put, List.setIfInBounds_toArray, List.set_cons_succ, List.set_cons_zero]; try simp only [wrap_zero]) | (apply wpM_pass; (case hw => rfl); simp only [Act.put, List.setIfInBounds_toArray, List.set_cons_succ, List.set_cons_zero]; try simp only [wrap_zero]))
              apply wpM_nil
              apply hN
              intro w10 hE10 hK
              have q1 : CV (rg f1) (.slice A1 os1.length c1) w10 := (hK 5).2
              have q2 : CV (rg f2) (.slice A2 os2.length c2) w10 := (hK 12).2
              clear hK hN
              obtain ⟨_, _, o1, e1, R1, M1, _⟩ := q1
              obtain ⟨_, _, o2, e2, R2, M2, _⟩ := q2
              injection e1 with e1 e3 e4
              subst e1 e4
              injection e2 with e1 e5 e6
              subst e1 e6
              obtain ⟨z1, hz1⟩ : ∃ z, os1.length = z := ⟨_, rfl⟩
              obtain ⟨z2, hz2⟩ : ∃ z, os2.length = z := ⟨_, rfl⟩
              rw [hz1] at e3 hl1 ⊢
              rw [hz2] at e5 hl2 ⊢
              have hEA := hEW.trans hE10
              have hWA := hW.trans hE10
              obtain ⟨p, hp⟩ : ∃ p, equalB (rg f1) (rg f2) = p := ⟨_, rfl⟩
              obtain ⟨t, ht⟩ : ∃ t, emptyB (rg f1) = t := ⟨_, rfl⟩
              have HPE := Lib.hid hp
              have HSA := Lib.hid (show decide (o1.map rg = o2.map rg) = p by rw [M1, M2, form_toList, hp])
              have HTE := Lib.hid ht
              have HZ := Lib.hid (show t = decide (z1 = 0) by rw [← ht, form_empty, ← M1, List.length_map, e3])
              have hz1' : (z1 = 0 ∧ t = true) ∨ (z1 = 1 ∧ t = false) := by
                have h9 := HZ.out
                rcases (show z1 = 0 ∨ z1 = 1 by omega) with h8 | h8
                · exact .inl ⟨h8, by rw [h9, h8]; rfl⟩
                · exact .inr ⟨h8, by rw [h9, h8]; rfl⟩
              obtain ⟨s1, s2⟩ := h.ls f1 (List.mem_of_getElem? HF1.out.1)
              obtain ⟨s3, s4⟩ := h.ls f2 (List.mem_of_getElem? HF1.out.2)
              have RR1 := Lib.hid (And.intro R1 e3)
              have RR2 := Lib.hid (And.intro R2 e5)
              replace k1 := (k1.ext hWA)
              replace k2 := (k2.ext hWA)
              have a0 := k1.c0
              have a1 := k1.c1
              have a2 := k1.c2
              have b0 := k2.c0
              have b1 := k2.c1
              have b2 := k2.c2
              obtain ⟨lA, lc, lo, hA, hc, hi, op⟩ := f1
              obtain ⟨mA, mc, mo, jA, jc, ji, oq⟩ := f2
              dsimp only at a0 a1 a2 b0 b1 b2 s1 s2 s3 s4
              have hilt : i < m := by omega
              have hilti : (i : Int) < (m : Int) := by omega
              clear hp ht hz1 hz2 M1 M2 R1 R2 e3 e5 k1 k2 r1 r2 hE hE10 hEW hW hWA
              go_wp2
              rcases hz1' with ⟨rfl, rfl⟩ | ⟨rfl, rfl⟩
              · cases p with
                | true =>
                  refine wp_region_mild 24 (fun i => match i with
                    | 9 => some fun _ v w' => v = .bool true
                    | 12 => some fun _ v w' => v = .bool true
                    | 19 => some fun _ v w' => v = .bool true
                    | _ => none) (by kernel_rfl) (by kernel_rfl) (fun W N hW hN => ?_)
                  have ea0 : ∀ w', Ext W w' → w'.cell? ⟨g, o + i * 3, none⟩ = some (.slice lA lo.length lc) := fun w' h => (hW.trans h).cell a0
                  have ea1 : ∀ w', Ext W w' → w'.cell? ⟨g, o + i * 3 + 1, none⟩ = some (.slice hA hi.length hc) := fun w' h => (hW.trans h).cell a1
                  have ea2 : ∀ w', Ext W w' → w'.cell? ⟨g, o + i * 3 + 2, none⟩ = some (.bool op) := fun w' h => (hW.trans h).cell a2
                  have eb0 : ∀ w', Ext W w' → w'.cell? ⟨g, o + i1 * 3, none⟩ = some (.slice mA mo.length mc) := fun w' h => (hW.trans h).cell b0
                  have eb1 : ∀ w', Ext W w' → w'.cell? ⟨g, o + i1 * 3 + 1, none⟩ = some (.slice jA ji.length jc) := fun w' h => (hW.trans h).cell b1
                  have eb2 : ∀ w', Ext W w' → w'.cell? ⟨g, o + i1 * 3 + 2, none⟩ = some (.bool oq) := fun w' h => (hW.trans h).cell b2
                  have hEW := hEA.trans hW
                  clear a0 a1 a2 b0 b1 b2
                  simp only [List.take_succ_cons, List.take_zero]
                  repeat (first | (apply wpM_one; (case hg => rfl); (case hsp => rfl); (case hv => (intro w' hw'; go_simp; exact rfl)); simp only [Act.put, List.setIfInBounds_toArray, List.set_cons_succ, List.set_cons_zero]; try simp only [wrap_zero]) | (apply wpM_oneG; (case hw => rfl); (case hsp => rfl); (case hv => (intro w' hw'; go_simp; exact rfl)); simp only [Act.put, List.setIfInBounds_toArray, List.set_cons_succ, List.set_cons_zero]; try simp only [wrap_zero]) | (apply wpM_pass; (case hw => rfl); simp only [Act.put, List.setIfInBounds_toArray, List.set_cons_succ, List.set_cons_zero]; try simp only [wrap_zero]))
                  refine wpM_new _ rfl rfl (fun V v => Stable.pure) (fun V V' h => rfl) (fun w' hw' hK => ?_) (fun v hv => ?_)
                  · unfold mildAt; go_simp; rw [mildUpon_enter]
                    refine ⟨Below.refl _ _, (equal_any (s1.ext (hEW.trans hw')) (s2.ext (hEW.trans hw')) (s3.ext (hEW.trans hw')) (s4.ext (hEW.trans hw'))).mono ?_⟩
                    rintro e w2 ⟨rfl, hE2⟩
                    exact ⟨_, rfl, hE2, congrArg Value.bool HPE.out⟩
                  obtain ⟨_, _, _, rfl⟩ := hv
                  simp only [Act.put, List.setIfInBounds_toArray, List.set_cons_succ, List.set_cons_zero]
                  repeat (first | (apply wpM_one; (case hg => rfl); (case hsp => rfl); (case hv => (intro w' hw'; go_simp; exact rfl)); simp only [Act.put, List.setIfInBounds_toArray, List.set_cons_succ, List.set_cons_zero]; try simp only [wrap_zero]) | (apply wpM_oneG; (case hw => rfl); (case hsp => rfl); (case hv => (intro w' hw'; go_simp; exact rfl)); simp only [Act.put, List.setIfInBounds_toArray, List.set_cons_succ, List.set_cons_zero]; try simp only [wrap_zero]) | (apply wpM_pass; (case hw => rfl); simp only [Act.put, List.setIfInBounds_toArray, List.set_cons_succ, List.set_cons_zero]; try simp only [wrap_zero]))
                  refine wpM_new _ rfl rfl (fun V v => Stable.pure) (fun V V' h => rfl) (fun w' hw' hK => ?_) (fun v hv => ?_)
                  · unfold mildAt; go_simp; rw [mildUpon_enter]
                    refine ⟨Below.refl _ _, (sameRanges_any (RR1.out.1.ext (hW.trans hw')) (RR2.out.1.ext (hW.trans hw')) RR1.out.2 RR2.out.2 (by omega) (by omega)).mono ?_⟩
                    rintro e w2 ⟨rfl, hE2⟩
                    exact ⟨_, rfl, hE2, congrArg Value.bool HSA.out⟩
                  obtain ⟨_, _, _, rfl⟩ := hv
                  simp only [Act.put, List.setIfInBounds_toArray, List.set_cons_succ, List.set_cons_zero]
                  repeat (first | (apply wpM_one; (case hg => rfl); (case hsp => rfl); (case hv => (intro w' hw'; go_simp; exact rfl)); simp only [Act.put, List.setIfInBounds_toArray, List.set_cons_succ, List.set_cons_zero]; try simp only [wrap_zero]) | (apply wpM_oneG; (case hw => rfl); (case hsp => rfl); (case hv => (intro w' hw'; go_simp; exact rfl)); simp only [Act.put, List.setIfInBounds_toArray, List.set_cons_succ, List.set_cons_zero]; try simp only [wrap_zero]) | (apply wpM_pass; (case hw => rfl); simp only [Act.put, List.setIfInBounds_toArray, List.set_cons_succ, List.set_cons_zero]; try simp only [wrap_zero]))
                  refine wpM_newG _ rfl rfl (fun V v => Stable.pure) (fun V V' h => rfl) (fun w' hw' hK => ?_) (fun v hv => ?_)
                  · unfold mildAt; go_simp; rw [mildUpon_enter]
                    refine ⟨Below.refl _ _, (empty_any (s1.ext (hEW.trans hw')) (s2.ext (hEW.trans hw'))).mono ?_⟩
                    rintro e w2 ⟨rfl, hE2⟩
                    exact ⟨_, rfl, hE2, congrArg Value.bool HTE.out⟩
                  obtain ⟨_, _, _, rfl⟩ := hv
                  simp only [Act.put, List.setIfInBounds_toArray, List.set_cons_succ, List.set_cons_zero]
                  repeat (first | (apply wpM_one; (case hg => rfl); (case hsp => rfl); (case hv => (intro w' hw'; go_simp; exact rfl)); simp only [Act.put, List.setIfInBounds_toArray, List.set_cons_succ, List.set_cons_zero]; try simp only [wrap_zero]) | (apply wpM_oneG; (case hw => rfl); (case hsp => rfl); (case hv => (intro w' hw'; go_simp; exact rfl)); simp only [Act.put, List.setIfInBounds_toArray, List.set_cons_succ, List.set_cons_zero]; try simp only [wrap_zero]) | (apply wpM_pass; (case hw => rfl); simp only [Act.put, List.setIfInBounds_toArray, List.set_cons_succ, List.set_cons_zero]; try simp only [wrap_zero]))
                  apply wpM_nil
                  apply hN
                  intro w11 hE11 hK
                  have hEB := hEW.trans hE11
                  clear hK hN ea0 ea1 ea2 eb0 eb1 eb2 hE11 hEW hW hEA
                  go_wp2
                  go_roundw
                  case rel => exact ⟨i1, by omega, by go_num, hEB⟩
                  case measure => simp [intOf]; omega
                | false =>
                  refine wp_region_mild 24 (fun i => match i with
                    | 9 => some fun _ v w' => v = .bool false
                    | 12 => some fun _ v w' => v = .bool false
                    | 19 => some fun _ v w' => v = .bool true
                    | _ => none) (by kernel_rfl) (by kernel_rfl) (fun W N hW hN => ?_)
                  have ea0 : ∀ w', Ext W w' → w'.cell? ⟨g, o + i * 3, none⟩ = some (.slice lA lo.length lc) := fun w' h => (hW.trans h).cell a0
                  have ea1 : ∀ w', Ext W w' → w'.cell? ⟨g, o + i * 3 + 1, none⟩ = some (.slice hA hi.length hc) := fun w' h => (hW.trans h).cell a1
                  have ea2 : ∀ w', Ext W w' → w'.cell? ⟨g, o + i * 3 + 2, none⟩ = some (.bool op) := fun w' h => (hW.trans h).cell a2
                  have eb0 : ∀ w', Ext W w' → w'.cell? ⟨g, o + i1 * 3, none⟩ = some (.slice mA mo.length mc) := fun w' h => (hW.trans h).cell b0
                  have eb1 : ∀ w', Ext W w' → w'.cell? ⟨g, o + i1 * 3 + 1, none⟩ = some (.slice jA ji.length jc) := fun w' h => (hW.trans h).cell b1
                  have eb2 : ∀ w', Ext W w' → w'.cell? ⟨g, o + i1 * 3 + 2, none⟩ = some (.bool oq) := fun w' h => (hW.trans h).cell b2
                  have hEW := hEA.trans hW
                  clear a0 a1 a2 b0 b1 b2
                  simp only [List.take_succ_cons, List.take_zero]
                  repeat (first | (apply wpM_one; (case hg => rfl); (case hsp => rfl); (case hv => (intro w' hw'; go_simp; exact rfl)); simp only [Act.put, List.setIfInBounds_toArray, List.set_cons_succ, List.set_cons_zero]; try simp only [wrap_zero]) | (apply wpM_oneG; (case hw => rfl); (case hsp => rfl); (case hv => (intro w' hw'; go_simp; exact rfl)); simp only [Act.put, List.setIfInBounds_toArray, List.set_cons_succ, List.set_cons_zero]; try simp only [wrap_zero]) | (apply wpM_pass; (case hw => rfl); simp only [Act.put, List.setIfInBounds_toArray, List.set_cons_succ, List.set_cons_zero]; try simp only [wrap_zero]))
                  refine wpM_new _ rfl rfl (fun V v => Stable.pure) (fun V V' h => rfl) (fun w' hw' hK => ?_) (fun v hv => ?_)
                  · unfold mildAt; go_simp; rw [mildUpon_enter]
                    refine ⟨Below.refl _ _, (equal_any (s1.ext (hEW.trans hw')) (s2.ext (hEW.trans hw')) (s3.ext (hEW.trans hw')) (s4.ext (hEW.trans hw'))).mono ?_⟩
                    rintro e w2 ⟨rfl, hE2⟩
                    exact ⟨_, rfl, hE2, congrArg Value.bool HPE.out⟩
                  obtain ⟨_, _, _, rfl⟩ := hv
                  simp only [Act.put, List.setIfInBounds_toArray, List.set_cons_succ, List.set_cons_zero]
                  repeat (first | (apply wpM_one; (case hg => rfl); (case hsp => rfl); (case hv => (intro w' hw'; go_simp; exact rfl)); simp only [Act.put, List.setIfInBounds_toArray, List.set_cons_succ, List.set_cons_zero]; try simp only [wrap_zero]) | (apply wpM_oneG; (case hw => rfl); (case hsp => rfl); (case hv => (intro w' hw'; go_simp; exact rfl)); simp only [Act.put, List.setIfInBounds_toArray, List.set_cons_succ, List.set_cons_zero]; try simp only [wrap_zero]) | (apply wpM_pass; (case hw => rfl); simp only [Act.put, List.setIfInBounds_toArray, List.set_cons_succ, List.set_cons_zero]; try simp only [wrap_zero]))
                  refine wpM_new _ rfl rfl (fun V v => Stable.pure) (fun V V' h => rfl) (fun w' hw' hK => ?_) (fun v hv => ?_)
                  · unfold mildAt; go_simp; rw [mildUpon_enter]
                    refine ⟨Below.refl _ _, (sameRanges_any (RR1.out.1.ext (hW.trans hw')) (RR2.out.1.ext (hW.trans hw')) RR1.out.2 RR2.out.2 (by omega) (by omega)).mono ?_⟩
                    rintro e w2 ⟨rfl, hE2⟩
                    exact ⟨_, rfl, hE2, congrArg Value.bool HSA.out⟩
                  obtain ⟨_, _, _, rfl⟩ := hv
                  simp only [Act.put, List.setIfInBounds_toArray, List.set_cons_succ, List.set_cons_zero]
                  repeat (first | (apply wpM_one; (case hg => rfl); (case hsp => rfl); (case hv => (intro w' hw'; go_simp; exact rfl)); simp only [Act.put, List.setIfInBounds_toArray, List.set_cons_succ, List.set_cons_zero]; try simp only [wrap_zero]) | (apply wpM_oneG; (case hw => rfl); (case hsp => rfl); (case hv => (intro w' hw'; go_simp; exact rfl)); simp only [Act.put, List.setIfInBounds_toArray, List.set_cons_succ, List.set_cons_zero]; try simp only [wrap_zero]) | (apply wpM_pass; (case hw => rfl); simp only [Act.put, List.setIfInBounds_toArray, List.set_cons_succ, List.set_cons_zero]; try simp only [wrap_zero]))
                  refine wpM_newG _ rfl rfl (fun V v => Stable.pure) (fun V V' h => rfl) (fun w' hw' hK => ?_) (fun v hv => ?_)
                  · unfold mildAt; go_simp; rw [mildUpon_enter]
                    refine ⟨Below.refl _ _, (empty_any (s1.ext (hEW.trans hw')) (s2.ext (hEW.trans hw'))).mono ?_⟩
                    rintro e w2 ⟨rfl, hE2⟩
                    exact ⟨_, rfl, hE2, congrArg Value.bool HTE.out⟩
                  obtain ⟨_, _, _, rfl⟩ := hv
                  simp only [Act.put, List.setIfInBounds_toArray, List.set_cons_succ, List.set_cons_zero]
                  repeat (first | (apply wpM_one; (case hg => rfl); (case hsp => rfl); (case hv => (intro w' hw'; go_simp; exact rfl)); simp only [Act.put, List.setIfInBounds_toArray, List.set_cons_succ, List.set_cons_zero]; try simp only [wrap_zero]) | (apply wpM_oneG; (case hw => rfl); (case hsp => rfl); (case hv => (intro w' hw'; go_simp; exact rfl)); simp only [Act.put, List.setIfInBounds_toArray, List.set_cons_succ, List.set_cons_zero]; try simp only [wrap_zero]) | (apply wpM_pass; (case hw => rfl); simp only [Act.put, List.setIfInBounds_toArray, List.set_cons_succ, List.set_cons_zero]; try simp only [wrap_zero]))
                  apply wpM_nil
                  apply hN
                  intro w11 hE11 hK
                  have hEB := hEW.trans hE11
                  clear hK hN ea0 ea1 ea2 eb0 eb1 eb2 hE11 hEW hW hEA
                  go_wp2
                  go_roundw
                  case rel => exact ⟨i1, by omega, by go_num, hEB⟩
                  case measure => simp [intOf]; omega
              · cases p with
                | true =>
                  refine wp_region_mild 24 (fun i => match i with
                    | 9 => some fun _ v w' => v = .bool true
                    | 12 => some fun _ v w' => v = .bool true
                    | 19 => some fun _ v w' => v = .bool false
                    | _ => none) (by kernel_rfl) (by kernel_rfl) (fun W N hW hN => ?_)
                  have ea0 : ∀ w', Ext W w' → w'.cell? ⟨g, o + i * 3, none⟩ = some (.slice lA lo.length lc) := fun w' h => (hW.trans h).cell a0
                  have ea1 : ∀ w', Ext W w' → w'.cell? ⟨g, o + i * 3 + 1, none⟩ = some (.slice hA hi.length hc) := fun w' h => (hW.trans h).cell a1
                  have ea2 : ∀ w', Ext W w' → w'.cell? ⟨g, o + i * 3 + 2, none⟩ = some (.bool op) := fun w' h => (hW.trans h).cell a2
                  have eb0 : ∀ w', Ext W w' → w'.cell? ⟨g, o + i1 * 3, none⟩ = some (.slice mA mo.length mc) := fun w' h => (hW.trans h).cell b0
                  have eb1 : ∀ w', Ext W w' → w'.cell? ⟨g, o + i1 * 3 + 1, none⟩ = some (.slice jA ji.length jc) := fun w' h => (hW.trans h).cell b1
                  have eb2 : ∀ w', Ext W w' → w'.cell? ⟨g, o + i1 * 3 + 2, none⟩ = some (.bool oq) := fun w' h => (hW.trans h).cell b2
                  have hEW := hEA.trans hW
                  clear a0 a1 a2 b0 b1 b2
                  simp only [List.take_succ_cons, List.take_zero]
                  repeat (first | (apply wpM_one; (case hg => rfl); (case hsp => rfl); (case hv => (intro w' hw'; go_simp; exact rfl)); simp only [Act.put, List.setIfInBounds_toArray, List.set_cons_succ, List.set_cons_zero]; try simp only [wrap_zero]) | (apply wpM_oneG; (case hw => rfl); (case hsp => rfl); (case hv => (intro w' hw'; go_simp; exact rfl)); simp only [Act.put, List.setIfInBounds_toArray, List.set_cons_succ, List.set_cons_zero]; try simp only [wrap_zero]) | (apply wpM_pass; (case hw => rfl); simp only [Act.put, List.setIfInBounds_toArray, List.set_cons_succ, List.set_cons_zero]; try simp only [wrap_zero]))
                  refine wpM_new _ rfl rfl (fun V v => Stable.pure) (fun V V' h => rfl) (fun w' hw' hK => ?_) (fun v hv => ?_)
                  · unfold mildAt; go_simp; rw [mildUpon_enter]
                    refine ⟨Below.refl _ _, (equal_any (s1.ext (hEW.trans hw')) (s2.ext (hEW.trans hw')) (s3.ext (hEW.trans hw')) (s4.ext (hEW.trans hw'))).mono ?_⟩
                    rintro e w2 ⟨rfl, hE2⟩
                    exact ⟨_, rfl, hE2, congrArg Value.bool HPE.out⟩
                  obtain ⟨_, _, _, rfl⟩ := hv
                  simp only [Act.put, List.setIfInBounds_toArray, List.set_cons_succ, List.set_cons_zero]
                  repeat (first | (apply wpM_one; (case hg => rfl); (case hsp => rfl); (case hv => (intro w' hw'; go_simp; exact rfl)); simp only [Act.put, List.setIfInBounds_toArray, List.set_cons_succ, List.set_cons_zero]; try simp only [wrap_zero]) | (apply wpM_oneG; (case hw => rfl); (case hsp => rfl); (case hv => (intro w' hw'; go_simp; exact rfl)); simp only [Act.put, List.setIfInBounds_toArray, List.set_cons_succ, List.set_cons_zero]; try simp only [wrap_zero]) | (apply wpM_pass; (case hw => rfl); simp only [Act.put, List.setIfInBounds_toArray, List.set_cons_succ, List.set_cons_zero]; try simp only [wrap_zero]))
                  refine wpM_new _ rfl rfl (fun V v => Stable.pure) (fun V V' h => rfl) (fun w' hw' hK => ?_) (fun v hv => ?_)
                  · unfold mildAt; go_simp; rw [mildUpon_enter]
                    refine ⟨Below.refl _ _, (sameRanges_any (RR1.out.1.ext (hW.trans hw')) (RR2.out.1.ext (hW.trans hw')) RR1.out.2 RR2.out.2 (by omega) (by omega)).mono ?_⟩
                    rintro e w2 ⟨rfl, hE2⟩
                    exact ⟨_, rfl, hE2, congrArg Value.bool HSA.out⟩
                  obtain ⟨_, _, _, rfl⟩ := hv
                  simp only [Act.put, List.setIfInBounds_toArray, List.set_cons_succ, List.set_cons_zero]
                  repeat (first | (apply wpM_one; (case hg => rfl); (case hsp => rfl); (case hv => (intro w' hw'; go_simp; exact rfl)); simp only [Act.put, List.setIfInBounds_toArray, List.set_cons_succ, List.set_cons_zero]; try simp only [wrap_zero]) | (apply wpM_oneG; (case hw => rfl); (case hsp => rfl); (case hv => (intro w' hw'; go_simp; exact rfl)); simp only [Act.put, List.setIfInBounds_toArray, List.set_cons_succ, List.set_cons_zero]; try simp only [wrap_zero]) | (apply wpM_pass; (case hw => rfl); simp only [Act.put, List.setIfInBounds_toArray, List.set_cons_succ, List.set_cons_zero]; try simp only [wrap_zero]))
                  refine wpM_newG _ rfl rfl (fun V v => Stable.pure) (fun V V' h => rfl) (fun w' hw' hK => ?_) (fun v hv => ?_)
                  · unfold mildAt; go_simp; rw [mildUpon_enter]
                    refine ⟨Below.refl _ _, (empty_any (s1.ext (hEW.trans hw')) (s2.ext (hEW.trans hw'))).mono ?_⟩
                    rintro e w2 ⟨rfl, hE2⟩
                    exact ⟨_, rfl, hE2, congrArg Value.bool HTE.out⟩
                  obtain ⟨_, _, _, rfl⟩ := hv
                  simp only [Act.put, List.setIfInBounds_toArray, List.set_cons_succ, List.set_cons_zero]
                  repeat (first | (apply wpM_one; (case hg => rfl); (case hsp => rfl); (case hv => (intro w' hw'; go_simp; exact rfl)); simp only [Act.put, List.setIfInBounds_toArray, List.set_cons_succ, List.set_cons_zero]; try simp only [wrap_zero]) | (apply wpM_oneG; (case hw => rfl); (case hsp => rfl); (case hv => (intro w' hw'; go_simp; exact rfl)); simp only [Act.put, List.setIfInBounds_toArray, List.set_cons_succ, List.set_cons_zero]; try simp only [wrap_zero]) | (apply wpM_pass; (case hw => rfl); simp only [Act.put, List.setIfInBounds_toArray, List.set_cons_succ, List.set_cons_zero]; try simp only [wrap_zero]))
                  apply wpM_nil
                  apply hN
                  intro w11 hE11 hK
                  have hEB := hEW.trans hE11
                  clear hK hN ea0 ea1 ea2 eb0 eb1 eb2 hE11 hEW hW hEA
                  go_wp2
                  go_roundw
                  case rel => exact ⟨i1, by omega, by go_num, hEB⟩
                  case measure => simp [intOf]; omega
                | false =>
                  refine wp_region_mild 24 (fun i => match i with
                    | 9 => some fun _ v w' => v = .bool false
                    | 12 => some fun _ v w' => v = .bool false
                    | 19 => some fun _ v w' => v = .bool false
                    | _ => none) (by kernel_rfl) (by kernel_rfl) (fun W N hW hN => ?_)
                  have ea0 : ∀ w', Ext W w' → w'.cell? ⟨g, o + i * 3, none⟩ = some (.slice lA lo.length lc) := fun w' h => (hW.trans h).cell a0
                  have ea1 : ∀ w', Ext W w' → w'.cell? ⟨g, o + i * 3 + 1, none⟩ = some (.slice hA hi.length hc) := fun w' h => (hW.trans h).cell a1
                  have ea2 : ∀ w', Ext W w' → w'.cell? ⟨g, o + i * 3 + 2, none⟩ = some (.bool op) := fun w' h => (hW.trans h).cell a2
                  have eb0 : ∀ w', Ext W w' → w'.cell? ⟨g, o + i1 * 3, none⟩ = some (.slice mA mo.length mc) := fun w' h => (hW.trans h).cell b0
                  have eb1 : ∀ w', Ext W w' → w'.cell? ⟨g, o + i1 * 3 + 1, none⟩ = some (.slice jA ji.length jc) := fun w' h => (hW.trans h).cell b1
                  have eb2 : ∀ w', Ext W w' → w'.cell? ⟨g, o + i1 * 3 + 2, none⟩ = some (.bool oq) := fun w' h => (hW.trans h).cell b2
                  have hEW := hEA.trans hW
                  clear a0 a1 a2 b0 b1 b2
                  simp only [List.take_succ_cons, List.take_zero]
                  repeat (first | (apply wpM_one; (case hg => rfl); (case hsp => rfl); (case hv => (intro w' hw'; go_simp; exact rfl)); simp only [Act.put, List.setIfInBounds_toArray, List.set_cons_succ, List.set_cons_zero]; try simp only [wrap_zero]) | (apply wpM_oneG; (case hw => rfl); (case hsp => rfl); (case hv => (intro w' hw'; go_simp; exact rfl)); simp only [Act.put, List.setIfInBounds_toArray, List.set_cons_succ, List.set_cons_zero]; try simp only [wrap_zero]) | (apply wpM_pass; (case hw => rfl); simp only [Act.put, List.setIfInBounds_toArray, List.set_cons_succ, List.set_cons_zero]; try simp only [wrap_zero]))
                  refine wpM_new _ rfl rfl (fun V v => Stable.pure) (fun V V' h => rfl) (fun w' hw' hK => ?_) (fun v hv => ?_)
                  · unfold mildAt; go_simp; rw [mildUpon_enter]
                    refine ⟨Below.refl _ _, (equal_any (s1.ext (hEW.trans hw')) (s2.ext (hEW.trans hw')) (s3.ext (hEW.trans hw')) (s4.ext (hEW.trans hw'))).mono ?_⟩
                    rintro e w2 ⟨rfl, hE2⟩
                    exact ⟨_, rfl, hE2, congrArg Value.bool HPE.out⟩
                  obtain ⟨_, _, _, rfl⟩ := hv
                  simp only [Act.put, List.setIfInBounds_toArray, List.set_cons_succ, List.set_cons_zero]
                  repeat (first | (apply wpM_one; (case hg => rfl); (case hsp => rfl); (case hv => (intro w' hw'; go_simp; exact rfl)); simp only [Act.put, List.setIfInBounds_toArray, List.set_cons_succ, List.set_cons_zero]; try simp only [wrap_zero]) | (apply wpM_oneG; (case hw => rfl); (case hsp => rfl); (case hv => (intro w' hw'; go_simp; exact rfl)); simp only [Act.put, List.setIfInBounds_toArray, List.set_cons_succ, List.set_cons_zero]; try simp only [wrap_zero]) | (apply wpM_pass; (case hw => rfl); simp only [Act.put, List.setIfInBounds_toArray, List.set_cons_succ, List.set_cons_zero]; try simp only [wrap_zero]))
                  refine wpM_new _ rfl rfl (fun V v => Stable.pure) (fun V V' h => rfl) (fun w' hw' hK => ?_) (fun v hv => ?_)
                  · unfold mildAt; go_simp; rw [mildUpon_enter]
                    refine ⟨Below.refl _ _, (sameRanges_any (RR1.out.1.ext (hW.trans hw')) (RR2.out.1.ext (hW.trans hw')) RR1.out.2 RR2.out.2 (by omega) (by omega)).mono ?_⟩
                    rintro e w2 ⟨rfl, hE2⟩
                    exact ⟨_, rfl, hE2, congrArg Value.bool HSA.out⟩
                  obtain ⟨_, _, _, rfl⟩ := hv
                  simp only [Act.put, List.setIfInBounds_toArray, List.set_cons_succ, List.set_cons_zero]
                  repeat (first | (apply wpM_one; (case hg => rfl); (case hsp => rfl); (case hv => (intro w' hw'; go_simp; exact rfl)); simp only [Act.put, List.setIfInBounds_toArray, List.set_cons_succ, List.set_cons_zero]; try simp only [wrap_zero]) | (apply wpM_oneG; (case hw => rfl); (case hsp => rfl); (case hv => (intro w' hw'; go_simp; exact rfl)); simp only [Act.put, List.setIfInBounds_toArray, List.set_cons_succ, List.set_cons_zero]; try simp only [wrap_zero]) | (apply wpM_pass; (case hw => rfl); simp only [Act.put, List.setIfInBounds_toArray, List.set_cons_succ, List.set_cons_zero]; try simp only [wrap_zero]))
                  refine wpM_newG _ rfl rfl (fun V v => Stable.pure) (fun V V' h => rfl) (fun w' hw' hK => ?_) (fun v hv => ?_)
                  · unfold mildAt; go_simp; rw [mildUpon_enter]
                    refine ⟨Below.refl _ _, (empty_any (s1.ext (hEW.trans hw')) (s2.ext (hEW.trans hw'))).mono ?_⟩
                    rintro e w2 ⟨rfl, hE2⟩
                    exact ⟨_, rfl, hE2, congrArg Value.bool HTE.out⟩
                  obtain ⟨_, _, _, rfl⟩ := hv
                  simp only [Act.put, List.setIfInBounds_toArray, List.set_cons_succ, List.set_cons_zero]
                  repeat (first | (apply wpM_one; (case hg => rfl); (case hsp => rfl); (case hv => (intro w' hw'; go_simp; exact rfl)); simp only [Act.put, List.setIfInBounds_toArray, List.set_cons_succ, List.set_cons_zero]; try simp only [wrap_zero]) | (apply wpM_oneG; (case hw => rfl); (case hsp => rfl); (case hv => (intro w' hw'; go_simp; exact rfl)); simp only [Act.put, List.setIfInBounds_toArray, List.set_cons_succ, List.set_cons_zero]; try simp only [wrap_zero]) | (apply wpM_pass; (case hw => rfl); simp only [Act.put, List.setIfInBounds_toArray, List.set_cons_succ, List.set_cons_zero]; try simp only [wrap_zero]))
                  apply wpM_nil
                  apply hN
                  intro w11 hE11 hK
                  have hEB := hEW.trans hE11
                  clear hK hN ea0 ea1 ea2 eb0 eb1 eb2 hE11 hEW hW hEA
                  go_wp2
                  go_roundw
                  case rel => exact ⟨i1, by omega, by go_num, hEB⟩
                  case measure => simp [intOf]; omega
            · have hki : ¬ (i1 : Int) < (m : Int) := by omega
              go_wp2
              go_ret
              exact ⟨rfl, hE⟩
        · obtain ⟨t', rfl⟩ : ∃ t', t = t' + 1 := ⟨t - 1, by omega⟩
          obtain rfl : j = (t' : Int) := by omega
          have hji : ¬ (t' : Int) < 0 := by omega
          have hj0 : (0 : Int) ≤ (t' : Int) := by omega
          have htl : (t' : Int) < (m : Int) := by omega
          have iwj : IntKind.i64.wrap ((t' : Int) - 1) = (t' : Int) - 1 := IntWalk.i64_in _ (by omega)
          obtain ⟨g, o, rfl, hrd⟩ := h.rd (by have := HRL.out; omega)
          obtain ⟨f9, hf⟩ : ∃ f, rs[t']? = some f := ⟨_, List.getElem?_eq_getElem (by have := HRL.out; omega)⟩
          have hEq := hE3.trans hE
          have k1 := (hrd t' f9 hf).ext hEq
          obtain ⟨s1, s2⟩ := h.ls f9 (List.mem_of_getElem? hf)
          have HD := Lib.hid (drop_step hf)
          have hdl : (rs.drop (t' + 1)).reverse.length ≤ 200 := by rw [List.length_reverse, List.length_drop]; have := HRL.out; omega
          have hrl2 : rs.length ≤ 200 := by have := HRL.out; omega
          clear hf hrd
          obtain ⟨b, hb⟩ : ∃ b, hasB (rg f9) xs = b := ⟨_, rfl⟩
          have HB := Lib.hid hb
          have HA := Lib.hid (show anyB ((rs.drop t').map rg) xs = (b || anyB ((rs.drop (t' + 1)).map rg) xs) by rw [HD.out, List.map_cons, anyB_cons, HB.out])
          have a0 := k1.c0
          have a1 := k1.c1
          have a2 := k1.c2
          obtain ⟨lA, lc, lo, hA, hc, hi, op⟩ := f9
          dsimp only at a0 a1 a2 s1 s2
          clear hb
          go_wp2_with fail
          refine (has_any (s1.ext hEq) (s2.ext hEq) (hx.ext hEq) rfl).mono ?_
          rintro e w3 ⟨rfl, hE4⟩
          rw [show hasB ⟨lo, hi, op⟩ xs = b from HB.out]
          have hE5 := hE.trans hE4
          have ho4 := ownsRow_ext ho hE4
          have b0 := hE4.cell a0
          have b1 := hE4.cell a1
          have b2 := hE4.cell a2
          have hE6 := hE4
          clear a0 a1 a2 k1
          have HRV := Lib.hid (show (rs.drop t').reverse = (rs.drop (t' + 1)).reverse ++ [(⟨lA, lc, lo, hA, hc, hi, op⟩ : Fr)] by rw [HD.out, List.reverse_cons])
          cases b with
          | true =>
            have HP2 := Lib.hid (show 1 = if anyB ((rs.drop t').map rg) xs then 1 else 0 by rw [HA.out]; rfl)
            go_wp2_with (at_builtin; refine wpList_append_own _ rfl _ _ 37 rfl w2.heap.size 32 i0 (.agg #[.slice none 0 0, .slice none 0 0, .bool false]) 3 56 Try.underlying37 hti hz0 hz1 hz2 rfl (by decide) _ _ _ rfl (World.ownsRow.alloc ho4 _) ⟨w3.heap.size, 0, none⟩ 1 1 (c3 ⟨lA, lc, lo, hA, hc, hi, op⟩) rfl rfl (cells_new _ _ _) (by simp [Value.oneCell']) (by simp [maxLen] <;> omega) (by omega) (by have := (hE5).size; simp; omega) ?_; intro v' w5 hown5 hgrow5 _)
            have hEd := ext_append hE5 ho4 hgrow5
            have ho5 := snoc_row (fs := (rs.drop (t' + 1)).reverse) hown5
            rw [← HRV.out] at ho5
            clear hgrow5 hown5
            go_wp2
            go_roundw
            case rel => exact ⟨t', (t' : Int) - 1, by omega, by go_num, by omega, ⟨1, rfl, HP2⟩, ho5, hEd⟩
            case measure => simp [intOf]
          | false =>
            have HP2 := Lib.hid (show p = if anyB ((rs.drop t').map rg) xs then 1 else 0 by rw [HA.out, Bool.false_or]; exact HP.out)
            go_wp2_with (at_builtin; refine wpList_append_own _ rfl _ _ 37 rfl w2.heap.size 32 i0 (.agg #[.slice none 0 0, .slice none 0 0, .bool false]) 3 56 Try.underlying37 hti hz0 hz1 hz2 rfl (by decide) _ _ _ rfl (World.ownsRow.alloc ho4 _) ⟨w3.heap.size, 0, none⟩ 1 1 (c3 ⟨lA, lc, lo, hA, hc, hi, op⟩) rfl rfl (cells_new _ _ _) (by simp [Value.oneCell']) (by simp [maxLen] <;> omega) (by omega) (by have := (hE5).size; simp; omega) ?_; intro v' w5 hown5 hgrow5 _)
            have hEd := ext_append hE5 ho4 hgrow5
            have ho5 := snoc_row (fs := (rs.drop (t' + 1)).reverse) hown5
            rw [← HRV.out] at ho5
            clear hgrow5 hown5
            go_wp2
            go_roundw
            case rel => exact ⟨t', (t' : Int) - 1, by omega, by go_num, by omega, ⟨p, rfl, HP2⟩, ho5, hEd⟩
            case measure => simp [intOf]
end Go.Proofs.Ytijlaknfagpglaa
