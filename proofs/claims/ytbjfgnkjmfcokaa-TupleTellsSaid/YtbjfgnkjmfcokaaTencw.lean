/- Layer 3: contracts of Encode, of the program and of the document. No condition but that the list lies in memory and that its texts are no longer than 2^40. -/
import Derived.Test.YtbjfgnkjmfcokaaTrputs
import Derived.Test.YtbjfgnkjmfcokaaTvalid
import Derived.Test.YtbjfgnkjmfcokaaTlist
namespace Go.Proofs.Ytbjfgnkjmfcokaa
open Go.RowKit Go.Proofs
set_option linter.unusedVariables false
theorem validV_kind {v : Vl} (h : validV v = true) : 0 ≤ v.kind ∧ v.kind ≤ 5 := by
  unfold validV at h
  simp only [Bool.and_eq_true, decide_eq_true_eq] at h
  exact h.1.1.1.1.1
theorem own_nil {e : TypeId} {B : Nat} {w : World} : Own e B w none 0 [] := ⟨rfl, .inl ⟨rfl, rfl⟩⟩
theorem ret_two {A : Option Addr} {n n' c : Nat} {k : IntKind} {a b : Int} (h : n = n') (h2 : a = b) : Ending.returned (.tuple #[.slice A n c, .int k a]) = .returned (.tuple #[.slice A n' c, .int k b]) := by rw [h, h2]
section
variable {w : World} {A : Option Addr} {c : Nat} {l : List Vl}
set_option maxRecDepth 100000 in
set_option maxHeartbeats 1000000 in
theorem tEncode_any (h : PL w A c l) (ht : ∀ v ∈ l, v.text.length ≤ 1099511627776) :
    Calls Try.prog 23 #[.slice A l.length c] w fun e w' => ∃ A' c', e = .returned (.tuple #[.slice A' (encO l).length c', .int .i64 (encE l)]) ∧ Own 5 w.heap.size w' A' c' (encO l) ∧ Ext w w' := by
  have hl := h.len
  obtain ⟨out, hout⟩ : ∃ o, encO l = o := ⟨_, rfl⟩
  obtain ⟨en, hen⟩ : ∃ o, encE l = o := ⟨_, rfl⟩
  rw [hout, hen]
  have hsf := run_store_float Try.prog
  have hsc := run_store_complex Try.prog
  have HO := Lib.hid hout
  have HE := Lib.hid hen
  clear hout hen
  go_enter Try.func23, Try.ntmps23
  go_wp2
  go_loopw [11] (fun i wr => ∃ k : Nat, k ≤ l.length ∧ i = .int .i64 k ∧ Hid ((l.take k).all validV = true) ∧ Ext w wr) (fun i _ => l.length - (intOf i).toNat)
  case atStart => exact ⟨0, Nat.zero_le _, rfl, Lib.hid rfl, Below.refl _ _⟩
  case round =>
    obtain ⟨k, hk, rfl, HA, hE⟩ := hrel
    by_cases hlt : k < l.length
    · obtain ⟨v, hv⟩ : ∃ v, l[k]? = some v := ⟨_, List.getElem?_eq_getElem hlt⟩
      obtain ⟨b, off, rfl, hc⟩ := (h.ext hE).pAt hv
      obtain ⟨x0, x1, x2, x3, x4, x5⟩ := hc wr (Below.refl _ _)
      have HV := Lib.hid hv
      clear hc hv
      go_wp2_with fail
      refine (tvalid_any (v := v)).mono ?_
      rintro e w2 ⟨rfl, hE2⟩
      replace hE2 := (hE.trans (ext_alloc _ _)).trans hE2
      clear x0 x1 x2 x3 x4 x5
      cases hvv : validV v with
      | true =>
        have HA2 := Lib.hid (all_step HA.out HV.out hvv)
        go_wp2
        go_roundw
        case rel => exact ⟨k + 1, by omega, by go_num, HA2, hE2⟩
        case measure => first | (simp [intOf]; done) | (simp [intOf]; omega)
      | false =>
        have HK := Lib.hid (encE_kind HV.out hvv)
        have HN := Lib.hid (encO_none (l := l) (by rw [HK.out]; decide))
        go_wp2
        refine bodyPost_ret (results_tmp2 rfl _ _ _) rfl ?_
        refine ⟨none, 0, ret_two ?_ ?_, ?_, hE2⟩
        · rw [← HO.out, HN.out]; rfl
        · rw [← HE.out, HK.out]
        · rw [← HO.out, HN.out]; exact own_nil
    · obtain rfl : k = l.length := by omega
      have HA2 : Hid (l.all validV = true) := Lib.hid (by have := HA.out; rwa [List.take_length] at this)
      clear HA hk hlt
      go_wp2
      go_loopw [6, 21] (fun u i wr => ∃ (k d : Nat) (A' : Option Addr) (c' : Nat), k ≤ l.length ∧ u = .slice A' d c' ∧ i = .int .i64 k ∧ Hid (d = (encB (l.take k)).length) ∧ d ≤ 4096 ∧ Own 5 w.heap.size wr A' c' (encB (l.take k)) ∧ Ext w wr) (fun _ i _ => l.length - (intOf i).toNat)
      case atStart => exact ⟨0, 0, none, 0, Nat.zero_le _, rfl, rfl, Lib.hid rfl, by omega, own_nil, hE⟩
      case round =>
        obtain ⟨k, d, A', c', hk, rfl, rfl, HD, hd, hown, hE⟩ := hrel
        have hsz := hE.size
        by_cases hlt : k < l.length
        · obtain ⟨v, hv⟩ : ∃ v, l[k]? = some v := ⟨_, List.getElem?_eq_getElem hlt⟩
          have hok := h.ok v (List.mem_of_getElem? hv)
          have htx := ht v (List.mem_of_getElem? hv)
          have hvk := validV_kind (List.all_eq_true.1 HA2.out v (List.mem_of_getElem? hv))
          have hpl := length_putB hok
          obtain ⟨b, off, rfl, hc⟩ := (h.ext hE).pAt hv
          obtain ⟨x0, x1, x2, x3, x4, x5⟩ := hc wr (Below.refl _ _)
          have HV := Lib.hid hv
          clear hc hv
          go_wp2_with fail
          have HB := tput_any (w := (wr.alloc (Obj.cells #[.int .i64 v.kind, .bool v.bool, .int .i64 v.int, .float .f64 v.real, .complex .f64 v.re v.im, str v.text] 56))) (B := w.heap.size) (A := A') (c := c') (v := v) (by first | omega | (simp; omega)) (hown.ext (ext_alloc _ _)) (by rw [← HD.out]; omega) hok htx
          rw [← HD.out, ← encB_take HV.out] at HB
          refine HB.mono ?_
          rintro e w2 ⟨A2, c2, rfl, ho2, hX2⟩
          have hE2 := U8.to_ext hX2 (hE.trans (ext_alloc _ _)) (Nat.le_refl _)
          clear HB hX2 x0 x1 x2 x3 x4 x5
          obtain ⟨d2, hd2⟩ : ∃ d2, (encB (l.take (k + 1))).length = d2 := ⟨_, rfl⟩
          rw [hd2]
          have hd3 : d2 ≤ d + 281474976710676 := by rw [← hd2, encB_take HV.out, List.length_append, ← HD.out]; omega
          have HD2 := Lib.hid hd2
          clear hd2
          by_cases hm : 4096 < d2
          · have HK := Lib.hid (encE_many HA2.out (k := k + 1) (by rw [HD2.out]; exact hm))
            have HN := Lib.hid (encO_none (l := l) (by rw [HK.out]; decide))
            go_wp2
            refine bodyPost_ret (results_tmp2 rfl _ _ _) rfl ?_
            refine ⟨none, 0, ret_two ?_ ?_, ?_, hE2⟩
            · rw [← HO.out, HN.out]; rfl
            · rw [← HE.out, HK.out]
            · rw [← HO.out, HN.out]; exact own_nil
          · go_wp2
            go_roundw
            case rel => exact ⟨k + 1, d2, A2, c2, by omega, rfl, by go_num, Lib.hid HD2.out.symm, by omega, ho2, hE2⟩
            case measure => first | (simp [intOf]; done) | (simp [intOf]; omega)
        · obtain rfl : k = l.length := by omega
          have HD2 : Hid (d = (encB l).length) := Lib.hid (by rw [HD.out, List.take_length])
          rw [List.take_length] at hown
          obtain ⟨hk1, hk2⟩ := encE_fine HA2.out (by rw [← HD2.out]; exact hd)
          have HK := Lib.hid hk1
          have HN := Lib.hid hk2
          clear hk1 hk2 HD
          go_wp2
          refine bodyPost_ret (results_tmp2 rfl _ _ _) rfl ?_
          refine ⟨A', c', ret_two ?_ ?_, ?_, hE⟩
          · rw [← HO.out, HN.out, ← HD2.out]
          · rw [← HE.out, HK.out]
          · rw [← HO.out, HN.out]; exact hown
set_option maxRecDepth 100000 in
set_option maxHeartbeats 1000000 in
theorem dEncode_any (h : DL w A c l) (ht : ∀ v ∈ l, v.text.length ≤ 1099511627776) :
    Calls Try.prog 19 #[.slice A l.length c] w fun e w' => ∃ A' c', e = .returned (.tuple #[.slice A' (encO l).length c', .int .i64 (encE l)]) ∧ Own 5 w.heap.size w' A' c' (encO l) ∧ Ext w w' := by
  have hl := h.len
  obtain ⟨out, hout⟩ : ∃ o, encO l = o := ⟨_, rfl⟩
  obtain ⟨en, hen⟩ : ∃ o, encE l = o := ⟨_, rfl⟩
  rw [hout, hen]
  have hsf := run_store_float Try.prog
  have hsc := run_store_complex Try.prog
  have HO := Lib.hid hout
  have HE := Lib.hid hen
  clear hout hen
  go_enter Try.func19, Try.ntmps19
  go_wp2
  go_loopw [4] (fun i wr => ∃ k : Nat, k ≤ l.length ∧ i = .int .i64 k ∧ Hid ((l.take k).all validV = true) ∧ Ext w wr) (fun i _ => l.length - (intOf i).toNat)
  case atStart => exact ⟨0, Nat.zero_le _, rfl, Lib.hid rfl, Below.refl _ _⟩
  case round =>
    obtain ⟨k, hk, rfl, HA, hE⟩ := hrel
    by_cases hlt : k < l.length
    · obtain ⟨v, hv⟩ : ∃ v, l[k]? = some v := ⟨_, List.getElem?_eq_getElem hlt⟩
      obtain ⟨b, off, rfl, hc⟩ := (h.ext hE).dAt hv
      obtain ⟨x0, x1, x2, x3, x4, x5, x6⟩ := hc wr (Below.refl _ _)
      have HV := Lib.hid hv
      clear hc hv
      go_wp2_with fail
      refine (dvalid_any (v := v)).mono ?_
      rintro e w2 ⟨rfl, hE2⟩
      replace hE2 := hE.trans hE2
      clear x0 x1 x2 x3 x4 x5 x6
      cases hvv : validV v with
      | true =>
        have HA2 := Lib.hid (all_step HA.out HV.out hvv)
        go_wp2
        go_roundw
        case rel => exact ⟨k + 1, by omega, by go_num, HA2, hE2⟩
        case measure => first | (simp [intOf]; done) | (simp [intOf]; omega)
      | false =>
        have HK := Lib.hid (encE_kind HV.out hvv)
        have HN := Lib.hid (encO_none (l := l) (by rw [HK.out]; decide))
        go_wp2
        refine bodyPost_ret (results_tmp2 rfl _ _ _) rfl ?_
        refine ⟨none, 0, ret_two ?_ ?_, ?_, hE2⟩
        · rw [← HO.out, HN.out]; rfl
        · rw [← HE.out, HK.out]
        · rw [← HO.out, HN.out]; exact own_nil
    · obtain rfl : k = l.length := by omega
      have HA2 : Hid (l.all validV = true) := Lib.hid (by have := HA.out; rwa [List.take_length] at this)
      clear HA hk hlt
      go_wp2
      go_loopw [5, 6] (fun u i wr => ∃ (k d : Nat) (A' : Option Addr) (c' : Nat), k ≤ l.length ∧ u = .slice A' d c' ∧ i = .int .i64 k ∧ Hid (d = (encB (l.take k)).length) ∧ d ≤ 4096 ∧ Own 5 w.heap.size wr A' c' (encB (l.take k)) ∧ Ext w wr) (fun _ i _ => l.length - (intOf i).toNat)
      case atStart => exact ⟨0, 0, none, 0, Nat.zero_le _, rfl, rfl, Lib.hid rfl, by omega, own_nil, hE⟩
      case round =>
        obtain ⟨k, d, A', c', hk, rfl, rfl, HD, hd, hown, hE⟩ := hrel
        have hsz := hE.size
        by_cases hlt : k < l.length
        · obtain ⟨v, hv⟩ : ∃ v, l[k]? = some v := ⟨_, List.getElem?_eq_getElem hlt⟩
          have hok := h.ok v (List.mem_of_getElem? hv)
          have htx := ht v (List.mem_of_getElem? hv)
          have hvk := validV_kind (List.all_eq_true.1 HA2.out v (List.mem_of_getElem? hv))
          have hpl := length_putB hok
          obtain ⟨b, off, rfl, hc⟩ := (h.ext hE).dAt hv
          obtain ⟨x0, x1, x2, x3, x4, x5, x6⟩ := hc wr (Below.refl _ _)
          have HV := Lib.hid hv
          clear hc hv
          go_wp2_with fail
          have HB := rput_any (w := wr) (B := w.heap.size) (A := A') (c := c') (v := v) (by first | omega | (simp; omega)) hown (by rw [← HD.out]; omega) hok htx hvk
          rw [← HD.out, ← encB_take HV.out] at HB
          refine HB.mono ?_
          rintro e w2 ⟨A2, c2, rfl, ho2, hX2⟩
          have hE2 := U8.to_ext hX2 hE (Nat.le_refl _)
          clear HB hX2 x0 x1 x2 x3 x4 x5 x6
          obtain ⟨d2, hd2⟩ : ∃ d2, (encB (l.take (k + 1))).length = d2 := ⟨_, rfl⟩
          rw [hd2]
          have hd3 : d2 ≤ d + 281474976710676 := by rw [← hd2, encB_take HV.out, List.length_append, ← HD.out]; omega
          have HD2 := Lib.hid hd2
          clear hd2
          by_cases hm : 4096 < d2
          · have HK := Lib.hid (encE_many HA2.out (k := k + 1) (by rw [HD2.out]; exact hm))
            have HN := Lib.hid (encO_none (l := l) (by rw [HK.out]; decide))
            go_wp2
            refine bodyPost_ret (results_tmp2 rfl _ _ _) rfl ?_
            refine ⟨none, 0, ret_two ?_ ?_, ?_, hE2⟩
            · rw [← HO.out, HN.out]; rfl
            · rw [← HE.out, HK.out]
            · rw [← HO.out, HN.out]; exact own_nil
          · go_wp2
            go_roundw
            case rel => exact ⟨k + 1, d2, A2, c2, by omega, rfl, by go_num, Lib.hid HD2.out.symm, by omega, ho2, hE2⟩
            case measure => first | (simp [intOf]; done) | (simp [intOf]; omega)
        · obtain rfl : k = l.length := by omega
          have HD2 : Hid (d = (encB l).length) := Lib.hid (by rw [HD.out, List.take_length])
          rw [List.take_length] at hown
          obtain ⟨hk1, hk2⟩ := encE_fine HA2.out (by rw [← HD2.out]; exact hd)
          have HK := Lib.hid hk1
          have HN := Lib.hid hk2
          clear hk1 hk2 HD
          go_wp2
          refine bodyPost_ret (results_tmp2 rfl _ _ _) rfl ?_
          refine ⟨A', c', ret_two ?_ ?_, ?_, hE⟩
          · rw [← HO.out, HN.out, ← HD2.out]
          · rw [← HE.out, HK.out]
          · rw [← HO.out, HN.out]; exact hown
end
end Go.Proofs.Ytbjfgnkjmfcokaa
