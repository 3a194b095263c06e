/- Layer 3: the contracts of Decode, of the program and of the document. No condition but that the bytes lie in memory. -/
import Derived.Test.YtbjfgnkjmfcokaaTrget
import Derived.Test.YtbjfgnkjmfcokaaTdeco
import Derived.Test.YtbjfgnkjmfcokaaTown
import Derived.Test.YtbjfgnkjmfcokaaTencw
import Derived.Test.YtbjfgnkjmfcokaaRefa
namespace Go.Proofs.Ytbjfgnkjmfcokaa
open Go.RowKit Go.Proofs
set_option linter.unusedVariables false
def lenOf : Value → Nat
  | .slice _ n _ => n
  | _ => 0
theorem Sl.nil' (w : World) (A : Option Addr) {c : Nat} (hc : c ≤ 9223372036854775807) : Sl w A c [] := ⟨Rd.nil _ _, by simp, Nat.zero_le _, hc⟩
section
variable {w : World} {A : Option Addr} {c : Nat} {bs : List UInt8}
set_option maxRecDepth 100000 in
set_option maxHeartbeats 1000000 in
theorem tDecode_any (h : Sl w A c bs) :
    Calls Try.prog 27 #[.slice A bs.length c] w fun e w' => ∃ A' c', e = .returned (.tuple #[.slice A' (decO bs).length c', .int .i64 (decE bs)]) ∧ OwnP w.heap.size w' A' c' (decO bs) ∧ Ext w w' := by
  have hl := h.len
  obtain ⟨out, hout⟩ : ∃ o, decO bs = o := ⟨_, rfl⟩
  obtain ⟨en, hen⟩ : ∃ o, decE bs = o := ⟨_, rfl⟩
  rw [hout, hen]
  have hsf := run_store_float Try.prog
  have hsc := run_store_complex Try.prog
  obtain ⟨i0, hi, hz0, hz1, hz2⟩ := info_parts infoVal
  have HO := Lib.hid hout
  have HE := Lib.hid hen
  clear hout hen
  by_cases hm : 4096 < bs.length
  · obtain ⟨k1, k2⟩ := decO_many hm
    have HK := Lib.hid k1
    have HN := Lib.hid k2
    clear k1 k2
    go_enter Try.func27, Try.ntmps27
    go_wp2
    refine bodyPost_ret (results_tmp2 rfl _ _ _) rfl ?_
    refine ⟨none, 0, ret_two ?_ ?_, ?_, Below.refl _ _⟩
    · rw [← HO.out, HK.out]; rfl
    · rw [← HE.out, HN.out]
    · rw [← HO.out, HK.out]; exact OwnV.nil
  · have hm2 : bs.length ≤ 4096 := by omega
    have hmI : (bs.length : Int) ≤ 4096 := by omega
    have HM := Lib.hid hm
    clear hm
    go_enter Try.func27, Try.ntmps27
    go_wp2
    go_loopw [0, 4] (fun u v wr => ∃ (rest : List UInt8) (done : List Vl) (A' OA : Option Addr) (m d c' oc : Nat), u = .slice A' m c' ∧ v = .slice OA d oc ∧ Hid (m = rest.length) ∧ Hid (d = done.length) ∧ m + d ≤ bs.length ∧ Hid (Sl w A' c' rest) ∧ Hid (Gath bs done rest) ∧ OwnP w.heap.size wr OA oc done ∧ Ext w wr) (fun u _ _ => lenOf u)
    case atStart => exact ⟨bs, [], A, none, bs.length, 0, c, 0, rfl, rfl, Lib.hid rfl, Lib.hid rfl, Nat.le_refl _, Lib.hid h, Lib.hid (Gath.zero bs), OwnV.nil, Below.refl _ _⟩
    case round =>
      obtain ⟨rest, done, A', OA, m, d, c', oc, rfl, rfl, HR, HD, hmd, HS, HG, hown, hE⟩ := hrel
      have hsz := hE.size
      by_cases hr : m = 0
      · subst hr
        have hrn : rest = [] := List.eq_nil_of_length_eq_zero HR.out.symm
        have HG2 : Hid (decL bs = (done, 0)) := Lib.hid (Gath.done (hrn ▸ HG.out))
        have HF := Lib.hid (decO_of HM.out HG2.out)
        clear hrn
        go_wp2
        refine bodyPost_ret (results_tmp2 rfl _ _ _) rfl ?_
        refine ⟨OA, oc, ret_two ?_ ?_, ?_, hE⟩
        · rw [← HO.out, HF.out.1, ← HD.out]
        · rw [← HE.out, HF.out.2]
        · rw [← HO.out, HF.out.1]; exact hown
      · have hpos : 0 < m := by omega
        have hposI : (0 : Int) < (m : Int) := by omega
        have hne : rest ≠ [] := fun e => by have := HR.out; rw [e] at this; simp at this; omega
        have HC := get_any (HS.out.ext hE) (by rw [← HR.out]; exact hpos)
        rw [← HR.out] at HC
        have HNE := Lib.hid hne
        clear hne
        go_wp2_with fail
        refine HC.mono ?_
        rintro e w1 ⟨v, n, e2, rfl, ⟨hg1, hg2⟩, hE1⟩
        have hE1' := hE.trans hE1
        have hown1 := hown.ext (hE1.trans ((ext_alloc w1 (Obj.cells #[.int .i64 v.kind, .bool v.bool, .int .i64 v.int, .float .f64 v.real, .complex .f64 v.re v.im, str v.text] 56)).trans (ext_alloc _ (Obj.cells #[.int .i64 v.kind, .bool v.bool, .int .i64 v.int, .float .f64 v.real, .complex .f64 v.re v.im, str v.text] 56))))
        have hownr := hown.ext (hE1.trans (ext_alloc w1 (Obj.cells #[.int .i64 v.kind, .bool v.bool, .int .i64 v.int, .float .f64 v.real, .complex .f64 v.re v.im, str v.text] 56)))
        have hsz1 := hE1'.size
        clear HC
        by_cases he : e2 = 0
        · obtain ⟨hv, hn⟩ := hg2 he
          have hge : getE rest = 0 := by rw [← hg1, he]
          obtain ⟨hn1, hn2⟩ := lenB_pos hge
          obtain ⟨nn, hnn⟩ : ∃ k, lenB rest = k := ⟨_, rfl⟩
          rw [hnn] at hn hn1 hn2
          rw [← HR.out] at hn2
          have hst := HG.out.step HNE.out hge
          rw [hnn, ← hv] at hst
          obtain ⟨A2, hsl, s2⟩ := slice_from HS.out nn (by rw [← HR.out]; exact hn2)
          rw [← HR.out] at hsl
          have HS2 := Lib.hid s2
          have HST := Lib.hid hst
          have HR2 : Hid (m - nn = (rest.drop nn).length) := Lib.hid (by rw [List.length_drop, ← HR.out])
          subst hn
          subst he
          have HV := Lib.hid hv
          clear hg1 hg2 hge hst s2 hnn hv hr hown
          obtain ⟨vk, vb, vi, vr, ve, vm, vt⟩ := v
          simp only at hown1
          have hd4 : d ≤ 4096 := by omega
          obtain rfl := HD.out
          go_wp2_with (at_builtin; refine wpList_append_own _ rfl _ _ 24 rfl w.heap.size 56 i0 _ 6 64 Try.underlying24 hi hz0 hz1 hz2 rfl (by decide) _ _ _ rfl hown1 ⟨w1.heap.size + 1, 0, none⟩ 1 1 [.int .i64 vk, .bool vb, .int .i64 vi, .float .f64 vr, .complex .f64 ve vm, str vt] rfl rfl (by have := news_of (w1.alloc (Obj.cells #[.int .i64 vk, .bool vb, .int .i64 vi, .float .f64 vr, .complex .f64 ve vm, str vt] 56)) [.int .i64 vk, .bool vb, .int .i64 vi, .float .f64 vr, .complex .f64 ve vm, str vt] 56 (0, 0); rwa [World.size_alloc] at this) (by simp [Value.oneCell']) (by simp [maxLen]; omega) (by omega) (by simp; omega) ?_; intro v' w4 hown4 hgrow4 _; have hE4 := ext_append (hE1'.trans (ext_alloc _ _)) hownr hgrow4; obtain ⟨A4, c4, rfl, ho4⟩ := OwnV.push (f := Vl.pc) (v := ⟨vk, vb, vi, vr, ve, vm, vt⟩) hown4; clear hown4 hgrow4)
          go_roundw
          case rel => exact ⟨rest.drop nn, done ++ [⟨vk, vb, vi, vr, ve, vm, vt⟩], A2, A4, m - nn, done.length + 1, c' - nn, c4, rfl, rfl, HR2, Lib.hid (by simp), by omega, HS2, HST, ho4, hE4⟩
          case measure => simp [lenOf]; omega
        · have hge : getE rest ≠ 0 := by rw [← hg1]; exact he
          have HF := Lib.hid (decO_of HM.out (HG.out.fail HNE.out hge))
          have HG1 := Lib.hid hg1
          have he2 : (e2 != 0) = true := by simpa using he
          have hEE := hE1'.trans (ext_alloc w1 (Obj.cells #[.int .i64 v.kind, .bool v.bool, .int .i64 v.int, .float .f64 v.real, .complex .f64 v.re v.im, str v.text] 56))
          clear hg1 hg2 hge
          go_wp2
          refine bodyPost_ret (results_tmp2 rfl _ _ _) rfl ?_
          refine ⟨none, 0, ret_two ?_ ?_, ?_, hEE⟩
          · rw [← HO.out, HF.out.1]; rfl
          · rw [← HE.out, HF.out.2, HG1.out]
          · rw [← HO.out, HF.out.1]; exact OwnV.nil
set_option maxRecDepth 100000 in
set_option maxHeartbeats 1000000 in
theorem dDecode_any (h : Sl w A c bs) :
    Calls Try.prog 25 #[.slice A bs.length c] w fun e w' => ∃ A' c', e = .returned (.tuple #[.slice A' (decO bs).length c', .int .i64 (decE bs)]) ∧ OwnD w.heap.size w' A' c' (decO bs) ∧ Ext w w' := by
  have hl := h.len
  obtain ⟨out, hout⟩ : ∃ o, decO bs = o := ⟨_, rfl⟩
  obtain ⟨en, hen⟩ : ∃ o, decE bs = o := ⟨_, rfl⟩
  rw [hout, hen]
  obtain ⟨i0, hi, hz0, hz1, hz2⟩ := info_parts infoV
  have HO := Lib.hid hout
  have HE := Lib.hid hen
  clear hout hen
  by_cases hm : 4096 < bs.length
  · obtain ⟨k1, k2⟩ := decO_many hm
    have HK := Lib.hid k1
    have HN := Lib.hid k2
    clear k1 k2
    go_enter Try.func25, Try.ntmps25
    go_wp2
    refine bodyPost_ret (results_tmp2 rfl _ _ _) rfl ?_
    refine ⟨none, 0, ret_two ?_ ?_, ?_, Below.refl _ _⟩
    · rw [← HO.out, HK.out]; rfl
    · rw [← HE.out, HN.out]
    · rw [← HO.out, HK.out]; exact OwnV.nil
  · have hm2 : bs.length ≤ 4096 := by omega
    have hmI : (bs.length : Int) ≤ 4096 := by omega
    have HM := Lib.hid hm
    clear hm
    go_enter Try.func25, Try.ntmps25
    go_wp2
    go_loopw [0, 4] (fun u v wr => ∃ (rest : List UInt8) (done : List Vl) (A' OA : Option Addr) (m d c' oc : Nat), u = .slice A' m c' ∧ v = .slice OA d oc ∧ Hid (m = rest.length) ∧ Hid (d = done.length) ∧ m + d ≤ bs.length ∧ Hid (Sl w A' c' rest) ∧ Hid (Gath bs done rest) ∧ OwnD w.heap.size wr OA oc done ∧ Ext w wr) (fun u _ _ => lenOf u)
    case atStart => exact ⟨bs, [], A, none, bs.length, 0, c, 0, rfl, rfl, Lib.hid rfl, Lib.hid rfl, Nat.le_refl _, Lib.hid h, Lib.hid (Gath.zero bs), OwnV.nil, Below.refl _ _⟩
    case round =>
      obtain ⟨rest, done, A', OA, m, d, c', oc, rfl, rfl, HR, HD, hmd, HS, HG, hown, hE⟩ := hrel
      have hsz := hE.size
      by_cases hr : m = 0
      · subst hr
        have hrn : rest = [] := List.eq_nil_of_length_eq_zero HR.out.symm
        have HG2 : Hid (decL bs = (done, 0)) := Lib.hid (Gath.done (hrn ▸ HG.out))
        have HF := Lib.hid (decO_of HM.out HG2.out)
        clear hrn
        go_wp2
        refine bodyPost_ret (results_tmp2 rfl _ _ _) rfl ?_
        refine ⟨OA, oc, ret_two ?_ ?_, ?_, hE⟩
        · rw [← HO.out, HF.out.1, ← HD.out]
        · rw [← HE.out, HF.out.2]
        · rw [← HO.out, HF.out.1]; exact hown
      · have hpos : 0 < m := by omega
        have hposI : (0 : Int) < (m : Int) := by omega
        have hne : rest ≠ [] := fun e => by have := HR.out; rw [e] at this; simp at this; omega
        have HNE := Lib.hid hne
        have hbad : ∀ e : Int, getE rest = e → e ≠ 0 → decO bs = [] ∧ decE bs = e := fun e h1 h2 => by
          have := decO_of HM.out (HG.out.fail HNE (by rw [h1]; exact h2))
          rw [h1] at this
          exact this
        have HC := length_any (HS.out.ext hE) (by rw [← HR.out]; exact hpos)
        rw [← HR.out] at HC
        have HB := Lib.hid hbad
        clear hne hbad
        obtain ⟨nn, hnn⟩ : ∃ k, lenB rest = k := ⟨_, rfl⟩
        rw [hnn] at HC
        by_cases h0 : nn = 0
        · subst h0
          have HF := Lib.hid (HB.out 5 (get_none hnn) (by decide))
          clear hnn hr
          go_wp2_with fail
          refine HC.mono ?_
          rintro e w1 ⟨rfl, rfl⟩
          clear HC
          go_wp2
          refine bodyPost_ret (results_tmp2 rfl _ _ _) rfl ?_
          refine ⟨none, 0, ret_two ?_ ?_, ?_, hE⟩
          · rw [← HO.out, HF.out.1]; rfl
          · rw [← HE.out, HF.out.2]
          · rw [← HO.out, HF.out.1]; exact OwnV.nil
        have hn0 : ((nn : Int) == 0) = false := by simp; omega
        by_cases h2 : m < nn
        · have HF := Lib.hid (HB.out 2 (get_short (by omega) (by rw [← HR.out, hnn]; exact h2)) (by decide))
          have h2I : (m : Int) < (nn : Int) := by omega
          clear hnn hr
          go_wp2_with fail
          refine HC.mono ?_
          rintro e w1 ⟨rfl, rfl⟩
          clear HC
          go_wp2
          refine bodyPost_ret (results_tmp2 rfl _ _ _) rfl ?_
          refine ⟨none, 0, ret_two ?_ ?_, ?_, hE⟩
          · rw [← HO.out, HF.out.1]; rfl
          · rw [← HE.out, HF.out.2]
          · rw [← HO.out, HF.out.1]; exact OwnV.nil
        have h2I : ¬ (m : Int) < (nn : Int) := by omega
        have hnm : nn ≤ m := by omega
        have hnp : 0 < nn := by omega
        have hle' : m ≤ c' := by have := HS.out.le; rw [HR.out]; exact this
        have hnc : nn ≤ c' := by omega
        have hnl : nn ≤ rest.length := by rw [← HR.out]; exact hnm
        have htl : (rest.take nn).length = nn := by simp; omega
        have hlt : lenB (rest.take nn) = nn := by
          have := lenB_take (b := rest) (by rw [hnn]; exact hnl)
          rwa [hnn] at this
        have hgv : getV rest = valB (rest.take nn) := by unfold getV; rw [hnn]
        have HST := Lib.hid (HS.out.cutAt nn hnl)
        have HDG := fun W (hx : Ext w W) => dget_any (w := W) (HST.out.ext hx) (by rw [htl]; exact hnp) (by rw [hlt, htl])
        obtain ⟨kb1, kb2, kb3, kb4⟩ := getV_like rest
        have hrl : rest.length ≤ 4096 := by rw [← HR.out]; omega
        replace kb3 : (getV rest).text.length ≤ 1099511627776 := by omega
        replace kb4 := kb4 (by omega)
        have hfm : getE rest = 0 ↔ eqB (putB (getV rest)) (rest.take nn) = true := by
          unfold getE
          rw [hnn, if_neg h0, if_neg (by omega), eqB_iff, hgv]
          split
          · rename_i e; simp [e]
          · rename_i e; simp [e]
        have hfe : getE rest = 0 ∨ getE rest = 5 := by
          unfold getE
          rw [hnn, if_neg h0, if_neg (by omega)]
          split <;> simp
        rw [htl, ← hgv] at HDG
        have HPB := length_putB2 kb4
        have HPL : Hid ((putB (getV rest)).length ≤ 140737488355328) := Lib.hid (by
          omega)
        obtain ⟨A2, hsl, s2⟩ := slice_from HS.out nn (by rw [← HR.out]; exact hnm)
        rw [← HR.out] at hsl
        have HS2 := Lib.hid s2
        have HSTEP : Hid (getE rest = 0 → Gath bs (done ++ [getV rest]) (rest.drop nn)) := Lib.hid (fun hg => by
          have := HG.out.step HNE.out hg
          rwa [hnn] at this)
        have HR2 : Hid (m - nn = (rest.drop nn).length) := Lib.hid (by rw [List.length_drop, ← HR.out])
        have HPBs : Hid (eqB (putB (getV rest)) (rest.take nn) = true → getE rest = 0) := Lib.hid hfm.2
        have HPBn : Hid (eqB (putB (getV rest)) (rest.take nn) = false → getE rest = 5) := Lib.hid (fun hf => by
          rcases hfe with hh | hh
          · rw [hfm.1 hh] at hf; cases hf
          · exact hh)
        have HTL := Lib.hid htl
        have HKB4 := Lib.hid kb4
        clear hnn hr htl hlt hgv hfm hfe hrl s2 hnl HPB kb4
        generalize getV rest = v at HDG kb1 kb2 kb3 HKB4 HPL HSTEP HPBs HPBn
        obtain ⟨q, hq⟩ : ∃ q, eqB (putB v) (rest.take nn) = q := ⟨_, rfl⟩
        rw [hq] at HPBs HPBn
        have HQ := Lib.hid hq
        clear hq
        go_wp2_with fail
        refine HC.mono ?_
        rintro e w1 ⟨rfl, rfl⟩
        clear HC
        go_wp2_with fail
        refine (HDG wr hE).mono ?_
        rintro e w2 ⟨rfl, hE2⟩
        clear HDG
        have hEb := ext_alloc w2 (Obj.cells #[.int .i64 v.kind, .bool v.bool, .int .i64 v.int, .int .u64 v.real, .int .u64 v.re, .int .u64 v.im, str v.text] 51)
        have hbb := heap_alloc_new w2 (Obj.cells #[.int .i64 v.kind, .bool v.bool, .int .i64 v.int, .int .u64 v.real, .int .u64 v.re, .int .u64 v.im, str v.text] 51)
        have HRP := rput_any (w := w2.alloc (Obj.cells #[.int .i64 v.kind, .bool v.bool, .int .i64 v.int, .int .u64 v.real, .int .u64 v.re, .int .u64 v.im, str v.text] 51)) (B := (w2.alloc (Obj.cells #[.int .i64 v.kind, .bool v.bool, .int .i64 v.int, .int .u64 v.real, .int .u64 v.re, .int .u64 v.im, str v.text] 51)).heap.size) (A := none) (c := 0) (bs := []) (v := v) (Nat.le_refl _) own_nil (by simp) HKB4.out kb3 ⟨kb1, kb2⟩
        rw [List.nil_append] at HRP
        go_wp2_with fail
        refine HRP.mono ?_
        rintro e w3 ⟨A3, c3, rfl, ho3, hX3⟩
        have hE3 := U8.to_ext hX3 (Below.refl _ _) (Nat.le_refl _)
        have hE03 := ((hE.trans hE2).trans hEb).trans hE3
        have hb3 := hE3.blk hbb
        have HEQ := eqBytes_any (ho3.sl HPL.out) (HST.out.ext hE03)
        rw [HTL.out, HQ.out] at HEQ
        obtain ⟨pl, hpl⟩ : ∃ k, (putB v).length = k := ⟨_, rfl⟩
        rw [hpl] at HEQ ⊢
        have hpm : pl ≤ 140737488355328 := by rw [← hpl]; exact HPL.out
        clear HRP hX3 hbb hpl ho3
        go_wp2_with fail
        refine HEQ.mono ?_
        rintro e w4 ⟨rfl, hE4⟩
        have hE04 := hE03.trans hE4
        have hb4 := hE4.blk hb3
        have hE24 := ((hE2.trans hEb).trans hE3).trans hE4
        have hsz4 := hE04.size
        clear HEQ hE3 hE4 hb3 hE03 hEb hE2
        cases q with
        | false =>
          have hg5 := HPBn.out rfl
          have HF := Lib.hid (HB.out 5 hg5 (by decide))
          clear hg5
          go_wp2
          refine bodyPost_ret (results_tmp2 rfl _ _ _) rfl ?_
          refine ⟨none, 0, ret_two ?_ ?_, ?_, hE04⟩
          · rw [← HO.out, HF.out.1]; rfl
          · rw [← HE.out, HF.out.2]
          · rw [← HO.out, HF.out.1]; exact OwnV.nil
        | true =>
          have HST2 := Lib.hid (HSTEP.out (HPBs.out rfl))
          have hownr := hown.ext hE24
          obtain ⟨vk, vb, vi, vr, ve, vm, vt⟩ := v
          simp only at hb4
          have q0 := cell_of_row w4 w2.heap.size 0 _ _ _ hb4
          have q1 := cell_of_row w4 w2.heap.size 1 _ _ _ hb4
          have q2 := cell_of_row w4 w2.heap.size 2 _ _ _ hb4
          have q3 := cell_of_row w4 w2.heap.size 3 _ _ _ hb4
          have q4 := cell_of_row w4 w2.heap.size 4 _ _ _ hb4
          have q5 := cell_of_row w4 w2.heap.size 5 _ _ _ hb4
          have q6 := cell_of_row w4 w2.heap.size 6 _ _ _ hb4
          simp only [List.getElem?_toArray, List.getElem?_cons_zero, List.getElem?_cons_succ] at q0 q1 q2 q3 q4 q5 q6
          have hown1 := hownr.ext (ext_alloc w4 (Obj.cells #[.int .i64 vk, .bool vb, .int .i64 vi, .int .u64 vr, .int .u64 ve, .int .u64 vm, str vt] 51))
          have hd4 : d ≤ 4096 := by omega
          clear hown hE24
          obtain rfl := HD.out
          go_wp2_with (at_builtin; refine wpList_append_own _ rfl _ _ 23 rfl w.heap.size 51 i0 _ 7 64 Try.underlying23 hi hz0 hz1 hz2 rfl (by decide) _ _ _ rfl hown1 ⟨w4.heap.size, 0, none⟩ 1 1 [.int .i64 vk, .bool vb, .int .i64 vi, .int .u64 vr, .int .u64 ve, .int .u64 vm, str vt] rfl rfl (news_of _ _ _ _) (by simp [Value.oneCell']) (by simp [maxLen]; omega) (by omega) (by simp; omega) ?_; intro v' w5 hown5 hgrow5 _; have hE5 := ext_append hE04 hownr hgrow5; obtain ⟨A5, c5, rfl, ho5⟩ := OwnV.push (f := Vl.dc) (v := ⟨vk, vb, vi, vr, ve, vm, vt⟩) hown5; clear hown5 hgrow5)
          go_roundw
          case rel => exact ⟨rest.drop nn, done ++ [⟨vk, vb, vi, vr, ve, vm, vt⟩], A2, A5, m - nn, done.length + 1, c' - nn, c5, rfl, rfl, HR2, Lib.hid (by simp), by omega, HS2, HST2, ho5, hE5⟩
          case measure => simp [lenOf]; omega
end
end Go.Proofs.Ytbjfgnkjmfcokaa
