/- The walk of TupleBegins. No condition but that what comes in lies in memory and that its texts are no longer than 2^40. -/
import Derived.Test.YtbjfgnkjmfcokaaTbegin
import Derived.Test.YtbjfgnkjmfcokaaTlistw
namespace Go.Proofs.Ytbjfgnkjmfcokaa
set_option linter.unusedVariables false
open Go.RowKit Go.Proofs
set_option maxRecDepth 100000 in
set_option maxHeartbeats 1000000 in
theorem begins_any {A : Option Addr} {c : Nat} {x : List Vl} {w : World} (hx : DL w A c x) (gx : x.length + 2 ≤ 2199023255552) (tx : ∀ v ∈ x, v.text.length ≤ 1099511627776) :
    Calls Try.prog 5 #[.slice A x.length c] w fun e w' => e = .returned (.bool true) ∧ Ext w w' := by
  obtain ⟨i0, hi, hz0, hz1, hz2⟩ := info_parts infoU8
  have h1 := @hiO_some x
  have h2 := @hiO_none x
  have h3 := @encO_none x
  have hlo := length_encO x
  have hup := length_hiO x
  have HT1 := fun w => @dEncode_any w A c x
  have HT2 := fun w B d => @begin_any w B d x
  generalize encE x = en at h1 h2 h3 HT1 HT2
  generalize hiO x = up at h1 h2 hup HT2
  generalize encO x = lo at h1 h3 hlo HT1 HT2
  have HX := Lib.hid h1
  have HY := Lib.hid h2
  have HZ := Lib.hid h3
  clear h1 h2 h3
  go_enter Try.func5, Try.ntmps5
  go_wp2_with fail
  refine (HT1 _ hx tx).mono ?_
  rintro e w1 ⟨A1, c1, rfl, ho1, hE1⟩
  clear HT1
  go_wp2_with fail
  refine (list_any (hx.ext hE1)).mono ?_
  rintro e w2 ⟨g, rfl, hg, hbg, hE2⟩
  clear hg
  have hE := hE1.trans hE2
  have px := hbg.list gx hx.ok
  have s1 := (ho1.ext hE2).sl (by omega)
  clear hE1 hE2 ho1
  go_wp2_with fail
  refine (HT2 _ _ _ px tx).mono ?_
  rintro e w3 ⟨A3, c3, A4, c4, rfl, ho3, ho4, hns, hE3⟩
  clear HT2
  replace hbg := hbg.ext hE3
  replace s1 := s1.ext hE3
  replace hE := hE.trans hE3
  have s3 := ho3.sl (by omega)
  have s4 := ho4.sl (by omega)
  clear px hE3 ho3 ho4 hns
  have hB := heap_alloc_new w3 (.cells #[.slice A3 lo.length c3, .slice A4 up.length c4, .bool false] 34)
  have hEb := ext_alloc w3 (.cells #[.slice A3 lo.length c3, .slice A4 up.length c4, .bool false] 34)
  go_wp2_with fail
  refine (kept_list (hbg.ext hEb) (hx.ext (hE.trans hEb)) gx).mono ?_
  rintro e w5 ⟨rfl, hE5⟩
  replace hB := hE5.blk hB
  replace hEb := hEb.trans hE5
  replace hE := hE.trans hEb
  replace s1 := s1.ext hEb
  replace s3 := s3.ext hEb
  replace s4 := s4.ext hEb
  clear hbg hEb hE5
  have q0 := cell_of_row w5 w3.heap.size 0 _ _ _ hB
  have q1 := cell_of_row w5 w3.heap.size 1 _ _ _ hB
  have q2 := cell_of_row w5 w3.heap.size 2 _ _ _ hB
  simp only [List.getElem?_toArray, List.getElem?_cons_zero, List.getElem?_cons_succ] at q0 q1 q2
  by_cases hz : en = 0
  · subst hz
    have HH := Lib.hid (HX.out rfl)
    clear HX HY HZ
    go_wp2_with fail
    clear q0 q1 q2
    refine (copyBytes_any s1).mono ?_
    rintro e w6 ⟨A6, c6, rfl, ho6, hE6⟩
    have hB6 := hE6.blk hB
    have hsz6 := hE6.size
    go_wp2_with (at_builtin; refine wpList_append_own _ rfl _ _ 30 rfl w5.heap.size 5 i0 (.int .u8 0) 1 1 Try.underlying30 hi hz0 hz1 hz2 rfl (by decide) _ _ _ rfl (World.ownsRow.alloc ho6 _) ⟨w6.heap.size, 0, none⟩ 1 1 [.int .u8 255] rfl rfl (cell_one_new _ _ _) (by simp [Value.oneCell']) (by simp [maxLen]; omega) (by omega) (by simp; omega) ?_; intro v' w7 hown7 hgrow7 _; obtain ⟨A7, c7, rfl, ho7, hX7⟩ := own_push 255 (exc_refl _ w6) ho6 hgrow7 hown7 rfl; have hE7 : Ext w5 w7 := U8.to_ext hX7 hE6 (Nat.le_refl _); have hB7 := hE7.blk hB; have q0 := cell_of_row w7 w3.heap.size 0 _ _ _ hB7; simp only [List.getElem?_toArray, List.getElem?_cons_zero, List.getElem?_cons_succ] at q0; clear hown7 hgrow7)
    clear q0
    have s7 := ho7.sl (by simp; omega)
    have hl7 : (lo ++ [(255 : UInt8)]).length = lo.length + 1 := by simp
    rw [hl7] at *
    rw [← HH.out] at s7
    have hl8 : lo.length + 1 = up.length := by rw [HH.out]; simp
    have HL8 := Lib.hid hl8
    clear hl7 hl8 ho7 ho6 hX7
    replace s1 := s1.ext hE7
    replace s3 := s3.ext hE7
    replace s4 := s4.ext hE7
    replace hE := hE.trans hE7
    refine (eqBytes_any s3 s1).mono ?_
    rw [eqB_self]
    rintro e w8 ⟨rfl, hE8⟩
    have hB8 := hE8.blk hB7
    have q1 := cell_of_row w8 w3.heap.size 1 _ _ _ hB8
    simp only [List.getElem?_toArray, List.getElem?_cons_zero, List.getElem?_cons_succ] at q1
    go_wp2_with fail
    rw [HL8.out]
    clear q1
    refine (eqBytes_any (s4.ext hE8) (s7.ext hE8)).mono ?_
    rw [eqB_self]
    rintro e w9 ⟨rfl, hE9⟩
    have hB9 := hE9.blk hB8
    have q2 := cell_of_row w9 w3.heap.size 2 _ _ _ hB9
    simp only [List.getElem?_toArray, List.getElem?_cons_zero, List.getElem?_cons_succ] at q2
    go_wp2
    go_ret
    exact ⟨rfl, (hE.trans hE8).trans hE9⟩
  · have HH := Lib.hid (HY.out hz)
    have HG := Lib.hid (HZ.out hz)
    have h1 : lo.length = 0 := by rw [HG.out]; rfl
    have h2 : up.length = 0 := by rw [HH.out]; rfl
    clear HX HY HZ
    rw [h1] at q0
    rw [h2] at q1
    go_wp2
    go_ret
    exact ⟨rfl, hE⟩
end Go.Proofs.Ytbjfgnkjmfcokaa
