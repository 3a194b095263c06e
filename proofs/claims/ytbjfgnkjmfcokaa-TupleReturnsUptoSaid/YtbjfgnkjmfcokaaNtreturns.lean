/- The walk of TupleReturns. No condition but that what comes in lies in memory and that its texts are no longer than 2^40. -/
import Derived.Test.YtbjfgnkjmfcokaaNorders
import Derived.Test.YtbjfgnkjmfcokaaTsame
namespace Go.Proofs.Ytbjfgnkjmfcokaa
set_option linter.unusedVariables false
open Go.RowKit Go.Proofs
theorem encO_dec {l : List Vl} (h : encE l = 0) (ho : ∀ v ∈ l, v.Ok) : decO (encO l) = l.map sameV ∧ decE (encO l) = 0 := by
  obtain ⟨h1, h2⟩ := encE_zero h
  have h3 := length_encO l
  rw [h2] at h3 ⊢
  exact decO_of (by omega) (enc_dec l h1 ho)
theorem encE_not {l : List Vl} (h : encE l ≠ 0) (hv : l.all validV = true) : encE l = 4 := by
  unfold encE at h ⊢
  rw [if_pos hv] at h ⊢
  split
  · rfl
  · rename_i h2
    rw [if_neg h2] at h
    exact absurd rfl h
set_option maxRecDepth 100000 in
set_option maxHeartbeats 1000000 in
theorem treturns_any {A : Option Addr} {c : Nat} {x : List Vl} {w : World} (hx : DL w A c x) (gx : x.length + 2 ≤ 2199023255552) (tx : ∀ v ∈ x, v.text.length ≤ 1099511627776) :
    Calls Try.prog 8 #[.slice A x.length c] w fun e w' => e = .returned (.bool true) ∧ Ext w w' := by
  have hl := hx.len
  have hlx := length_encO x
  have HT1 := fun w B d => @tEncode_any w B d x
  have hdec := fun h => @encO_dec x h hx.ok
  have hnot := @encE_not x
  have HT2 := fun w B d => @tDecode_any w B d (encO x)
  have hok : ∀ v ∈ decO (encO x), v.Ok := fun v hv => (decO_mem hv).2
  generalize decO (encO x) = m at *
  generalize decE (encO x) = em at *
  generalize encE x = en at *
  generalize encO x = lo at *
  have HD := Lib.hid hdec
  have HN := Lib.hid hnot
  have HO := Lib.hid hok
  clear hdec hnot hok
  go_enter Try.func8, Try.ntmps8
  go_wp2_with fail
  refine works_any.mono ?_
  rintro e w0 ⟨rfl, hE0⟩
  go_wp2_with fail
  refine (list_any (hx.ext hE0)).mono ?_
  rintro e w1 ⟨g, rfl, hg, hbg, hE1⟩
  clear hg
  go_wp2_with fail
  refine (HT1 _ _ _ (hbg.list gx hx.ok) tx).mono ?_
  rintro e w2 ⟨A2, c2, rfl, ho2, hE2⟩
  have hE := (hE0.trans hE1).trans hE2
  clear HT1 hbg hE0 hE1 hE2
  by_cases he : en = 0
  · subst he
    obtain ⟨d1, d2⟩ := HD.out rfl
    subst d2
    have s2 := ho2.sl (by omega)
    have HLM := Lib.hid (show m.length = x.length by rw [d1]; simp)
    have HAT := Lib.hid (show ∀ (k : Nat) (v : Vl), x[k]? = some v → m[k]? = some (sameV v) from fun k v h => by rw [d1]; simp [h])
    clear HD HN d1 ho2
    go_wp2_with fail
    refine (HT2 _ _ _ s2).mono ?_
    rintro e w3 ⟨A3, c3, rfl, ho3, hE3⟩
    have p3 := ho3.vl len_pc (by have := HLM.out; omega) HO.out
    replace hE := hE.trans hE3
    rw [HLM.out]
    clear HT2 s2 ho3 hE3
    have hgt : ¬ (4096 : Int) < (lo.length : Int) := by omega
    go_wp2
    go_loopw [9] (fun i wr => ∃ k : Nat, k ≤ x.length ∧ i = .int .i64 k ∧ Ext w wr ∧ Ext w3 wr) (fun i _ => x.length - (intOf i).toNat)
    case atStart => exact ⟨0, Nat.zero_le _, rfl, hE, Below.refl _ _⟩
    case round =>
      obtain ⟨k, hk, rfl, hE, hE3⟩ := hrel
      by_cases hlt : k < x.length
      · have hltm : k < m.length := by have := HLM.out; omega
        obtain ⟨v, hv⟩ : ∃ v, x[k]? = some v := ⟨_, List.getElem?_eq_getElem hlt⟩
        have hok := hx.ok v (List.mem_of_getElem? hv)
        obtain ⟨b, off, rfl, hc⟩ := (hx.ext hE).dAt hv
        obtain ⟨b3, off3, rfl, hc3⟩ := (p3.ext hE3).pAt (HAT.out k v hv)
        have y0 := fun W (h : Ext wr W) => (hc W h).1
        have y1 := fun W (h : Ext wr W) => (hc W h).2.1
        have y2 := fun W (h : Ext wr W) => (hc W h).2.2.1
        have y3 := fun W (h : Ext wr W) => (hc W h).2.2.2.1
        have y4 := fun W (h : Ext wr W) => (hc W h).2.2.2.2.1
        have y5 := fun W (h : Ext wr W) => (hc W h).2.2.2.2.2.1
        have y6 := fun W (h : Ext wr W) => (hc W h).2.2.2.2.2.2
        have x0 := fun W (h : Ext wr W) => (hc3 W h).1
        have x1 := fun W (h : Ext wr W) => (hc3 W h).2.1
        have x2 := fun W (h : Ext wr W) => (hc3 W h).2.2.1
        have x3 := fun W (h : Ext wr W) => (hc3 W h).2.2.2.1
        have x4 := fun W (h : Ext wr W) => (hc3 W h).2.2.2.2.1
        have x5 := fun W (h : Ext wr W) => (hc3 W h).2.2.2.2.2
        have HS2 := fun W => @dsame_any v W hok.real hok.re hok.im
        have HB := fun W => @bits_any (sameV v) W
        have hq := neqV (sameV v) (sameV v)
        rw [decide_eq_true rfl] at hq
        generalize sameV v = s at *
        clear hc hc3 hv hok
        go_wp2
        refine wp_region_rg Ext rel_ext (fun _ => True) [0, 1, 2, 3, 4, 5, 6, 7, 8, 9, 10] (fun i => match i with
          | 4 => some fun _ z _ => z = s.d
          | 9 => some fun _ z _ => z = s.d
          | _ => none) (fun _ => none) (fun _ => false) (by kernel_rfl) (by kernel_rfl) (fun _ _ _ _ => trivial) trivial (fun W N hW _ hN => ?_)
        have hEW := hW
        repeat (first | (apply wpR_one; (case ho => (simp only [List.getElem?_toArray, List.getElem?_cons_succ, List.getElem?_cons_zero]; try exact rfl)); (case hw => rfl); (case hl => rfl); (case hsp => rfl); (case he => rfl); (case hv => (intro w' hw'; (try (have hw2 := Ext.trans hEW hw')); (try (have hw3 := Exc.trans hEW hw')); (try (have hw4 := Exk.trans hEW hw')); (try (have hw5 := Mrk.trans hEW hw')); go_simp; exact rfl)); (case hw0 => (first | exact Below.refl _ _ | exact Exc.of_ext (Below.refl _ _) | exact Exk.of_ext (Below.refl _ _) | exact Mrk.of_ext (Below.refl _ _))); simp only [Act.put, List.setIfInBounds_toArray, List.set_cons_succ, List.set_cons_zero]) | (apply wpR_early; (case ho => (simp only [List.getElem?_toArray, List.getElem?_cons_succ, List.getElem?_cons_zero]; try exact rfl)); (case hw => rfl); (case hl => rfl); (case hsp => rfl); (case he => rfl); (case hv => (intro w' hw'; (try have hw2 := Ext.trans hEW hw'); go_simp; exact rfl)); simp only [Act.put, List.setIfInBounds_toArray, List.set_cons_succ, List.set_cons_zero]) | (apply wpR_pass; (case ho => (simp only [List.getElem?_toArray, List.getElem?_cons_succ, List.getElem?_cons_zero]; try exact rfl)); (case hw => rfl); (case hl => rfl); simp only [Act.put, List.setIfInBounds_toArray, List.set_cons_succ, List.set_cons_zero]))
        refine wpR_new (by ((simp only [List.getElem?_toArray, List.getElem?_cons_succ, List.getElem?_cons_zero]; try exact rfl))) _ rfl rfl rfl (fun V v => Lasts.pure) (fun V V' h => rfl) (fun w' hw' hK => ?_) (fun z hz => ?_)
        · unfold opAt; go_simp; refine upAt_enter ?_
          refine (HB _).mono ?_
          rintro e w2 ⟨rfl, hE2⟩
          exact ⟨_, rfl, hE2, rfl⟩
        obtain ⟨_, _, _, rfl⟩ := hz
        simp only [Act.put, List.setIfInBounds_toArray, List.set_cons_succ, List.set_cons_zero]
        repeat (first | (apply wpR_one; (case ho => (simp only [List.getElem?_toArray, List.getElem?_cons_succ, List.getElem?_cons_zero]; try exact rfl)); (case hw => rfl); (case hl => rfl); (case hsp => rfl); (case he => rfl); (case hv => (intro w' hw'; (try (have hw2 := Ext.trans hEW hw')); (try (have hw3 := Exc.trans hEW hw')); (try (have hw4 := Exk.trans hEW hw')); (try (have hw5 := Mrk.trans hEW hw')); go_simp; exact rfl)); (case hw0 => (first | exact Below.refl _ _ | exact Exc.of_ext (Below.refl _ _) | exact Exk.of_ext (Below.refl _ _) | exact Mrk.of_ext (Below.refl _ _))); simp only [Act.put, List.setIfInBounds_toArray, List.set_cons_succ, List.set_cons_zero]) | (apply wpR_early; (case ho => (simp only [List.getElem?_toArray, List.getElem?_cons_succ, List.getElem?_cons_zero]; try exact rfl)); (case hw => rfl); (case hl => rfl); (case hsp => rfl); (case he => rfl); (case hv => (intro w' hw'; (try have hw2 := Ext.trans hEW hw'); go_simp; exact rfl)); simp only [Act.put, List.setIfInBounds_toArray, List.set_cons_succ, List.set_cons_zero]) | (apply wpR_pass; (case ho => (simp only [List.getElem?_toArray, List.getElem?_cons_succ, List.getElem?_cons_zero]; try exact rfl)); (case hw => rfl); (case hl => rfl); simp only [Act.put, List.setIfInBounds_toArray, List.set_cons_succ, List.set_cons_zero]))
        refine wpR_new (by ((simp only [List.getElem?_toArray, List.getElem?_cons_succ, List.getElem?_cons_zero]; try exact rfl))) _ rfl rfl rfl (fun V v => Lasts.pure) (fun V V' h => rfl) (fun w' hw' hK => ?_) (fun z hz => ?_)
        · unfold opAt; go_simp; refine upAt_enter ?_
          refine (HS2 _).mono ?_
          rintro e w2 ⟨rfl, hE2⟩
          exact ⟨_, rfl, hE2, rfl⟩
        obtain ⟨_, _, _, rfl⟩ := hz
        simp only [Act.put, List.setIfInBounds_toArray, List.set_cons_succ, List.set_cons_zero]
        repeat (first | (apply wpR_one; (case ho => (simp only [List.getElem?_toArray, List.getElem?_cons_succ, List.getElem?_cons_zero]; try exact rfl)); (case hw => rfl); (case hl => rfl); (case hsp => rfl); (case he => rfl); (case hv => (intro w' hw'; (try (have hw2 := Ext.trans hEW hw')); (try (have hw3 := Exc.trans hEW hw')); (try (have hw4 := Exk.trans hEW hw')); (try (have hw5 := Mrk.trans hEW hw')); go_simp; exact rfl)); (case hw0 => (first | exact Below.refl _ _ | exact Exc.of_ext (Below.refl _ _) | exact Exk.of_ext (Below.refl _ _) | exact Mrk.of_ext (Below.refl _ _))); simp only [Act.put, List.setIfInBounds_toArray, List.set_cons_succ, List.set_cons_zero]) | (apply wpR_early; (case ho => (simp only [List.getElem?_toArray, List.getElem?_cons_succ, List.getElem?_cons_zero]; try exact rfl)); (case hw => rfl); (case hl => rfl); (case hsp => rfl); (case he => rfl); (case hv => (intro w' hw'; (try have hw2 := Ext.trans hEW hw'); go_simp; exact rfl)); simp only [Act.put, List.setIfInBounds_toArray, List.set_cons_succ, List.set_cons_zero]) | (apply wpR_pass; (case ho => (simp only [List.getElem?_toArray, List.getElem?_cons_succ, List.getElem?_cons_zero]; try exact rfl)); (case hw => rfl); (case hl => rfl); simp only [Act.put, List.setIfInBounds_toArray, List.set_cons_succ, List.set_cons_zero]))
        apply wpR_nil
        apply hN
        intro w' hE' hK _
        have hE4 := (hE.trans hEW).trans hE'
        have hE5 := (hE3.trans hEW).trans hE'
        clear hK hN y0 y1 y2 y3 y4 y5 y6 x0 x1 x2 x3 x4 x5 HS2 HB hW hEW hE' hq
        go_wp2
        go_roundw
        case rel => exact ⟨k + 1, by omega, by go_num, hE4, hE5⟩
        case measure => simp [intOf]; omega
      · obtain rfl : k = x.length := by omega
        go_wp2
        go_ret
        exact ⟨rfl, hE⟩
  · have he2 : (en != 0) = true := by simpa using he
    clear HD HT2 ho2
    have HNN := Lib.hid (HN.out he)
    clear HN he
    go_wp2
    go_loopw [5, 6] (fun b i wr => ∃ k : Nat, k ≤ x.length ∧ i = .int .i64 k ∧ b = .bool ((x.take k).all validV) ∧ Ext w wr) (fun _ i _ => x.length - (intOf i).toNat)
    case atStart => exact ⟨0, Nat.zero_le _, rfl, rfl, hE⟩
    case round =>
      obtain ⟨k, hk, rfl, rfl, hE⟩ := hrel
      by_cases hlt : k < x.length
      · obtain ⟨v, hv⟩ : ∃ v, x[k]? = some v := ⟨_, List.getElem?_eq_getElem hlt⟩
        have hst : (x.take (k + 1)).all validV = ((x.take k).all validV && validV v) := by
          obtain ⟨h1, rfl⟩ := List.getElem?_eq_some_iff.1 hv
          rw [List.take_succ_eq_append_getElem h1, List.all_append]
          simp only [List.all_cons, List.all_nil, Bool.and_true]
        have HST := Lib.hid hst
        clear hst
        generalize (x.take k).all validV = q at *
        cases q with
        | false =>
          have HS2 : Hid (false = (x.take (k + 1)).all validV) := Lib.hid (by rw [HST.out]; rfl)
          clear HST hv
          go_wp2
          go_roundw
          case rel => exact ⟨k + 1, by omega, by go_num, by rw [HS2.out], hE⟩
          case measure => simp [intOf]; omega
        | true =>
          obtain ⟨b, off, rfl, hc⟩ := (hx.ext hE).dAt hv
          obtain ⟨c0, c1, c2, c3, c4, c5, c6⟩ := hc wr (Below.refl _ _)
          have HV2 := fun W => @dvalid_any W v
          have HS2 : Hid (validV v = (x.take (k + 1)).all validV) := Lib.hid (by rw [HST.out]; rfl)
          clear HST hv hc
          go_wp2_with fail
          refine (HV2 _).mono ?_
          rintro e w3 ⟨rfl, hE3⟩
          generalize validV v = q at *
          go_wp2
          go_roundw
          case rel => exact ⟨k + 1, by omega, by go_num, by rw [HS2.out], hE.trans hE3⟩
          case measure => simp [intOf]; omega
      · obtain rfl : k = x.length := by omega
        rw [List.take_length]
        generalize x.all validV = q at *
        cases q with
        | false =>
          go_wp2
          go_ret
          exact ⟨rfl, hE⟩
        | true =>
          obtain rfl := HNN.out rfl
          go_wp2
          go_ret
          exact ⟨rfl, hE⟩
end Go.Proofs.Ytbjfgnkjmfcokaa
