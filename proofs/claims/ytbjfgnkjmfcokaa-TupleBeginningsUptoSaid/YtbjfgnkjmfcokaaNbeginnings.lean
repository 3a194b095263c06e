/- The walk of TupleBeginnings. No condition but that what comes in lies in memory and that its texts are no longer than 2^40. -/
import Derived.Test.YtbjfgnkjmfcokaaTbegin
import Derived.Test.YtbjfgnkjmfcokaaNorders
namespace Go.Proofs.Ytbjfgnkjmfcokaa
set_option linter.unusedVariables false
open Go.RowKit Go.Proofs
theorem ret_same {p q : Bool} (h : p = q) : Ending.returned (.bool (p == q)) = .returned (.bool true) := by rw [h]; cases q <;> rfl
set_option maxRecDepth 100000 in
set_option maxHeartbeats 1000000 in
theorem beginnings_any {A B : Option Addr} {c d : Nat} {x y : List Vl} {w : World} (hx : DL w A c x) (gx : x.length + 2 ≤ 2199023255552) (tx : ∀ v ∈ x, v.text.length ≤ 1099511627776) (hy : DL w B d y) (gy : y.length + 2 ≤ 2199023255552) (ty : ∀ v ∈ y, v.text.length ≤ 1099511627776) :
    Calls Try.prog 14 #[.slice A x.length c, .slice B y.length d] w fun e w' => e = .returned (.bool true) ∧ Ext w w' := by
  have hlx := length_encO x
  have hly := length_encO y
  have hlz := length_hiO y
  have hle := hx.le
  have hl := hx.len
  have HT1 := fun w B d => @tEncode_any w B d x
  have HT2 := fun w B d => @begin_any w B d y
  have hxy : encE x = 0 → encE y = 0 → ((cmpB (encO y) (encO x) ≤ 0 ∧ cmpB (encO x) (hiO y) < 0) ↔ (y.length ≤ x.length ∧ cmpL (x.take y.length) y = 0)) := fun h1 h2 => by
    obtain ⟨a1, a2⟩ := encE_zero h1
    obtain ⟨b1, b2⟩ := encE_zero h2
    rw [hiO_some h2, a2, b2]
    exact enc_in y x b1 a1 hy.ok hx.ok
  generalize encE x = en at *
  generalize encO x = lo at *
  generalize encE y = em at *
  generalize encO y = lp at *
  generalize hiO y = up at *
  have HXY := Lib.hid hxy
  have hxt := hx.take y.length c (by have : (x.take y.length).length ≤ x.length := by simp; omega
                                     omega) hx.cap
  have htl : y.length ≤ x.length → (x.take y.length).length = y.length := fun h => by simp; omega
  generalize x.take y.length = xt at *
  have HTL := Lib.hid htl
  clear hxy htl
  go_enter Try.func14, Try.ntmps14
  go_wp2_with fail
  refine works_any.mono ?_
  rintro e w0 ⟨rfl, hE0⟩
  go_wp2_with fail
  refine (list_any (hy.ext hE0)).mono ?_
  rintro e w1 ⟨g, rfl, hg, hbg, hE1⟩
  clear hg
  go_wp2_with fail
  refine (HT2 _ _ _ (hbg.list gy hy.ok) ty).mono ?_
  rintro e w2 ⟨A2, c2, A2', c2', rfl, ho2, ho2', hns, hE2⟩
  have hE := (hE0.trans hE1).trans hE2
  have hB := heap_alloc_new w2 (.cells #[.slice A2 lp.length c2, .slice A2' up.length c2', .bool false] 34)
  have hEb := ext_alloc w2 (.cells #[.slice A2 lp.length c2, .slice A2' up.length c2', .bool false] 34)
  replace hE := hE.trans hEb
  clear HT2 hbg hE0 hE1 hE2 hns
  go_wp2_with fail
  refine (list_any (hx.ext hE)).mono ?_
  rintro e w3 ⟨g3, rfl, hg, hbg, hE3⟩
  clear hg
  go_wp2_with fail
  refine (HT1 _ _ _ (hbg.list gx hx.ok) tx).mono ?_
  rintro e w4 ⟨A4, c4, rfl, ho4, hE4⟩
  have hE24 := (hEb.trans hE3).trans hE4
  have s2 := (ho2.ext hE24).sl (by omega)
  have s2' := (ho2'.ext hE24).sl (by omega)
  have s4 := ho4.sl (by omega)
  replace hB := (hE3.trans hE4).blk hB
  replace hE := (hE.trans hE3).trans hE4
  have q0 := cell_of_row w4 w2.heap.size 0 _ _ _ hB
  simp only [List.getElem?_toArray, List.getElem?_cons_zero, List.getElem?_cons_succ] at q0
  clear HT1 hbg hE3 hE4 ho2 ho2' ho4 hE24 hEb
  by_cases he : en = 0
  · subst he
    by_cases hf : em = 0
    · subst hf
      have HC := Lib.hid (HXY.out rfl rfl)
      clear HXY
      go_wp2_with fail
      refine (compare_any s2 s4).mono ?_
      obtain ⟨x1, hx1⟩ : ∃ k, cmpB lp lo = k := ⟨_, rfl⟩
      obtain ⟨x2, hx2⟩ : ∃ k, cmpB lo up = k := ⟨_, rfl⟩
      have HCU := fun W (hx : Ext w4 W) => compare_any (s4.ext hx) (s2'.ext hx)
      rw [hx1, hx2] at HC
      rw [hx2] at HCU
      rw [hx1]
      clear hx1 hx2
      rintro e w5 ⟨rfl, hE5⟩
      replace hE := hE.trans hE5
      replace hB := hE5.blk hB
      have HB := Lib.hid hB
      have q1 := cell_of_row w5 w2.heap.size 1 _ _ _ hB
      have q2 := cell_of_row w5 w2.heap.size 2 _ _ _ hB
      simp only [List.getElem?_toArray, List.getElem?_cons_zero, List.getElem?_cons_succ] at q1 q2
      clear s2 s4 s2' q0 hB
      by_cases h1 : x1 ≤ 0
      · have H1 := Lib.hid h1
        go_wp2_with fail
        refine (HCU _ hE5).mono ?_
        rintro e w9 ⟨rfl, hE9⟩
        replace hE := hE.trans hE9
        have q2 := cell_of_row w9 w2.heap.size 2 _ _ _ (hE9.blk HB.out)
        simp only [List.getElem?_toArray, List.getElem?_cons_zero, List.getElem?_cons_succ] at q2
        clear q1 HCU
        by_cases h2 : x2 < 0
        · have H2 := Lib.hid h2
          by_cases h3 : y.length ≤ x.length
          · have h3i : (y.length : Int) ≤ (x.length : Int) := by omega
            have hyc : y.length ≤ c := by omega
            have hll := HTL.out h3
            have HL := fun W (hx : Ext w W) => list_any (hxt.ext hx)
            rw [hll] at HL
            have HCC := fun (W : World) (g A' : Nat) (h : VBlk W g (roomed xt)) (q : PL W (some ⟨A', 0, none⟩) (y.length + 2) y) => tCompare_any (h.list (by omega) hxt.ok) q
            rw [hll] at HCC
            have HLL := Lib.hid hll
            clear hll
            go_wp2_with fail
            refine (HL _ hE).mono ?_
            rintro e w6 ⟨g6, rfl, hg, hb6, hE6⟩
            clear hg
            replace hE := hE.trans hE6
            go_wp2_with fail
            refine (list_any (hy.ext hE)).mono ?_
            rintro e w7 ⟨g7, rfl, hg, hb7, hE7⟩
            clear hg
            replace hE := hE.trans hE7
            have p7 := hb7.list gy hy.ok
            go_wp2_with fail
            refine (HCC w7 g6 g7 (hb6.ext hE7) p7).mono ?_
            rintro e w8 ⟨rfl, hE8⟩
            replace hE := hE.trans hE8
            have hz : (cmpL xt y == 0) = true := by simpa using (HC.out.1 ⟨H1.out, H2.out⟩).2
            clear HC HCC HL
            go_wp2
            go_ret
            exact ⟨ret_bool (by have h1' := H1.out; have h2' := H2.out; first | rfl | (simp [hz]; done) | (simp; omega)), hE⟩
          · exact absurd (HC.out.1 ⟨H1.out, H2.out⟩).1 h3
        · have H2 := Lib.hid h2
          by_cases h3 : y.length ≤ x.length
          · have h3i : (y.length : Int) ≤ (x.length : Int) := by omega
            have hyc : y.length ≤ c := by omega
            have hll := HTL.out h3
            have HL := fun W (hx : Ext w W) => list_any (hxt.ext hx)
            rw [hll] at HL
            have HCC := fun (W : World) (g A' : Nat) (h : VBlk W g (roomed xt)) (q : PL W (some ⟨A', 0, none⟩) (y.length + 2) y) => tCompare_any (h.list (by omega) hxt.ok) q
            rw [hll] at HCC
            have HLL := Lib.hid hll
            clear hll
            go_wp2_with fail
            refine (HL _ hE).mono ?_
            rintro e w6 ⟨g6, rfl, hg, hb6, hE6⟩
            clear hg
            replace hE := hE.trans hE6
            go_wp2_with fail
            refine (list_any (hy.ext hE)).mono ?_
            rintro e w7 ⟨g7, rfl, hg, hb7, hE7⟩
            clear hg
            replace hE := hE.trans hE7
            have p7 := hb7.list gy hy.ok
            go_wp2_with fail
            refine (HCC w7 g6 g7 (hb6.ext hE7) p7).mono ?_
            rintro e w8 ⟨rfl, hE8⟩
            replace hE := hE.trans hE8
            have hz : (cmpL xt y == 0) = false := by simp only [beq_eq_false_iff_ne, ne_eq]; intro h; have h1' := H1.out; have h2' := H2.out; have := HC.out.2 ⟨h3, h⟩; omega
            clear HC HCC HL
            go_wp2
            go_ret
            exact ⟨ret_bool (by have h1' := H1.out; have h2' := H2.out; first | rfl | (simp [hz]; done) | (simp; omega)), hE⟩
          · have h3i : ¬ (y.length : Int) ≤ (x.length : Int) := by omega
            clear HC
            go_wp2
            go_ret
            exact ⟨ret_bool (by have h1' := H1.out; have h2' := H2.out; first | rfl | (simp; omega)), hE⟩
      · have H1 := Lib.hid h1
        have H2 := Lib.hid h1
        clear HCU q1
        by_cases h3 : y.length ≤ x.length
        · have h3i : (y.length : Int) ≤ (x.length : Int) := by omega
          have hyc : y.length ≤ c := by omega
          have hll := HTL.out h3
          have HL := fun W (hx : Ext w W) => list_any (hxt.ext hx)
          rw [hll] at HL
          have HCC := fun (W : World) (g A' : Nat) (h : VBlk W g (roomed xt)) (q : PL W (some ⟨A', 0, none⟩) (y.length + 2) y) => tCompare_any (h.list (by omega) hxt.ok) q
          rw [hll] at HCC
          have HLL := Lib.hid hll
          clear hll
          go_wp2_with fail
          refine (HL _ hE).mono ?_
          rintro e w6 ⟨g6, rfl, hg, hb6, hE6⟩
          clear hg
          replace hE := hE.trans hE6
          go_wp2_with fail
          refine (list_any (hy.ext hE)).mono ?_
          rintro e w7 ⟨g7, rfl, hg, hb7, hE7⟩
          clear hg
          replace hE := hE.trans hE7
          have p7 := hb7.list gy hy.ok
          go_wp2_with fail
          refine (HCC w7 g6 g7 (hb6.ext hE7) p7).mono ?_
          rintro e w8 ⟨rfl, hE8⟩
          replace hE := hE.trans hE8
          have hz : (cmpL xt y == 0) = false := by simp only [beq_eq_false_iff_ne, ne_eq]; intro h; have h1' := H1.out; have h2' := H2.out; have := HC.out.2 ⟨h3, h⟩; omega
          clear HC HCC HL
          go_wp2
          go_ret
          exact ⟨ret_bool (by have h1' := H1.out; have h2' := H2.out; first | rfl | (simp [hz]; done) | (simp; omega)), hE⟩
        · have h3i : ¬ (y.length : Int) ≤ (x.length : Int) := by omega
          clear HC
          go_wp2
          go_ret
          exact ⟨ret_bool (by have h1' := H1.out; have h2' := H2.out; first | rfl | (simp; omega)), hE⟩
    · have he2 : (em != 0) = true := by simpa using hf
      clear HXY
      go_wp2
      all_goals go_ret
      all_goals exact ⟨rfl, hE⟩
  · have he2 : (en != 0) = true := by simpa using he
    clear HXY
    go_wp2
    all_goals go_ret
    all_goals exact ⟨rfl, hE⟩
end Go.Proofs.Ytbjfgnkjmfcokaa
