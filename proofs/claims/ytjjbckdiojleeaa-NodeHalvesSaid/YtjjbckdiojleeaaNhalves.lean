/- The walk of NodeHalves. No condition but that what comes in lies in memory. -/
import Derived.Test.YtjjbckdiojleeaaFits
import Derived.Test.YtjjbckdiojleeaaNlawb
namespace Go.Proofs.Ytjjbckdiojleeaa
set_option linter.unusedVariables false
open Go.RowKit Go.Proofs
set_option maxRecDepth 100000 in
set_option maxHeartbeats 4000000 in
theorem halves_any {v : Value} {p : Pg} {w : World} (hv : PgV w v p) :
    Calls Try.prog 7 #[v] w fun e w' => e = .returned (.bool true) ∧ Ext w w' := by
  obtain ⟨iA, ic, dA, dc, rfl, hi, hd⟩ := hv.ex
  have hsm := hv.small
  have hs3 := split_small hsm
  have hsa := hs3.a
  have hsb := hs3.b
  have hsc := hs3.c
  have HLW := Lib.hid (@halves_law p)
  have HSL := Lib.hid (@split_len p)
  clear hi hd hs3
  obtain ⟨o, ho⟩ : ∃ o, splitB p = o := ⟨_, rfl⟩
  rw [ho] at HLW HSL hsa hsb hsc
  have HO := Lib.hid ho
  clear ho
  obtain ⟨pa, hpa⟩ : ∃ x, part1 o = x := ⟨_, rfl⟩
  obtain ⟨pb, hpb⟩ : ∃ x, part2 o = x := ⟨_, rfl⟩
  obtain ⟨sp, hsp⟩ : ∃ x, part3 o = x := ⟨_, rfl⟩
  obtain ⟨z, hz⟩ : ∃ x, o.isSome = x := ⟨_, rfl⟩
  rw [hpa] at hsa
  rw [hpb] at hsb
  rw [hsp] at hsc
  have HPA := Lib.hid hpa
  have HPB := Lib.hid hpb
  have HSP := Lib.hid hsp
  have HZ := Lib.hid hz
  have HP := Lib.hid (heap_alloc_new w (.cells #[.int .i64 p.kind, .int .i64 p.level, .slice iA p.items.length ic, .slice dA p.data.length dc, .int .i64 p.next] 26))
  have hE := ext_alloc w (.cells #[.int .i64 p.kind, .int .i64 p.level, .slice iA p.items.length ic, .slice dA p.data.length dc, .int .i64 p.next] 26)
  clear hpa hpb hsp hz
  go_enter Try.func7, Try.ntmps7
  go_wp2_with fail
  refine works_any.mono ?_
  rintro e w1 ⟨rfl, hE1⟩
  replace HP := Lib.hid (hE1.blk HP.out)
  replace hE := hE.trans hE1
  clear hE1
  have p0 := cell_of_row w1 w.heap.size 0 _ _ _ HP.out
  have p1 := cell_of_row w1 w.heap.size 1 _ _ _ HP.out
  have p2 := cell_of_row w1 w.heap.size 2 _ _ _ HP.out
  have p3 := cell_of_row w1 w.heap.size 3 _ _ _ HP.out
  have p4 := cell_of_row w1 w.heap.size 4 _ _ _ HP.out
  simp only [List.getElem?_toArray, List.getElem?_cons_zero, List.getElem?_cons_succ] at p0 p1 p2 p3 p4
  go_wp2_with fail
  clear p0 p1 p2 p3 p4
  refine (copyPage_any (hv.ext hE)).mono ?_
  rintro e w2 ⟨v', rfl, hC, hE2⟩
  replace HP := Lib.hid (hE2.blk HP.out)
  replace hE := hE.trans hE2
  clear hE2
  have hcv := hC.pgv hsm
  clear hC
  go_wp2_with fail
  refine (nsplit_any hcv).mono ?_
  rintro e w3 ⟨v1, v2, A5, c5, rfl, o1, o2, os, hE3⟩
  rw [HO.out] at o1 o2 os ⊢
  rw [HPA.out] at o1
  rw [HPB.out] at o2
  rw [HSP.out] at os ⊢
  rw [HZ.out]
  have q1 := o1.pgv hsa
  have q2 := o2.pgv hsb
  have q3 := os.sl hsc
  clear o1 o2 os hcv
  replace HP := Lib.hid (hE3.blk HP.out)
  replace hE := hE.trans hE3
  clear hE3
  obtain ⟨iA1, ic1, dA1, dc1, rfl, _, _⟩ := q1.ex
  obtain ⟨iA2, ic2, dA2, dc2, rfl, _, _⟩ := q2.ex
  have hx := (ext_alloc w3 (.cells #[.int .i64 pa.kind, .int .i64 pa.level, .slice iA1 pa.items.length ic1, .slice dA1 pa.data.length dc1, .int .i64 pa.next] 26)).trans (ext_alloc _ (.cells #[.int .i64 pb.kind, .int .i64 pb.level, .slice iA2 pb.items.length ic2, .slice dA2 pb.data.length dc2, .int .i64 pb.next] 26))
  have HA := Lib.hid (heap_alloc2_old w3 (.cells #[.int .i64 pa.kind, .int .i64 pa.level, .slice iA1 pa.items.length ic1, .slice dA1 pa.data.length dc1, .int .i64 pa.next] 26) (.cells #[.int .i64 pb.kind, .int .i64 pb.level, .slice iA2 pb.items.length ic2, .slice dA2 pb.data.length dc2, .int .i64 pb.next] 26))
  have HB := Lib.hid (heap_alloc2_new w3 (.cells #[.int .i64 pa.kind, .int .i64 pa.level, .slice iA1 pa.items.length ic1, .slice dA1 pa.data.length dc1, .int .i64 pa.next] 26) (.cells #[.int .i64 pb.kind, .int .i64 pb.level, .slice iA2 pb.items.length ic2, .slice dA2 pb.data.length dc2, .int .i64 pb.next] 26))
  replace HP := Lib.hid (hx.blk HP.out)
  replace hE := hE.trans hx
  replace q1 := q1.ext hx
  replace q2 := q2.ext hx
  replace q3 := q3.ext hx
  clear hx
  have p0 := cell_of_row ((w3.alloc (.cells #[.int .i64 pa.kind, .int .i64 pa.level, .slice iA1 pa.items.length ic1, .slice dA1 pa.data.length dc1, .int .i64 pa.next] 26)).alloc (.cells #[.int .i64 pb.kind, .int .i64 pb.level, .slice iA2 pb.items.length ic2, .slice dA2 pb.data.length dc2, .int .i64 pb.next] 26)) w.heap.size 0 _ _ _ HP.out
  have p1 := cell_of_row ((w3.alloc (.cells #[.int .i64 pa.kind, .int .i64 pa.level, .slice iA1 pa.items.length ic1, .slice dA1 pa.data.length dc1, .int .i64 pa.next] 26)).alloc (.cells #[.int .i64 pb.kind, .int .i64 pb.level, .slice iA2 pb.items.length ic2, .slice dA2 pb.data.length dc2, .int .i64 pb.next] 26)) w.heap.size 1 _ _ _ HP.out
  have p2 := cell_of_row ((w3.alloc (.cells #[.int .i64 pa.kind, .int .i64 pa.level, .slice iA1 pa.items.length ic1, .slice dA1 pa.data.length dc1, .int .i64 pa.next] 26)).alloc (.cells #[.int .i64 pb.kind, .int .i64 pb.level, .slice iA2 pb.items.length ic2, .slice dA2 pb.data.length dc2, .int .i64 pb.next] 26)) w.heap.size 2 _ _ _ HP.out
  have p3 := cell_of_row ((w3.alloc (.cells #[.int .i64 pa.kind, .int .i64 pa.level, .slice iA1 pa.items.length ic1, .slice dA1 pa.data.length dc1, .int .i64 pa.next] 26)).alloc (.cells #[.int .i64 pb.kind, .int .i64 pb.level, .slice iA2 pb.items.length ic2, .slice dA2 pb.data.length dc2, .int .i64 pb.next] 26)) w.heap.size 3 _ _ _ HP.out
  have p4 := cell_of_row ((w3.alloc (.cells #[.int .i64 pa.kind, .int .i64 pa.level, .slice iA1 pa.items.length ic1, .slice dA1 pa.data.length dc1, .int .i64 pa.next] 26)).alloc (.cells #[.int .i64 pb.kind, .int .i64 pb.level, .slice iA2 pb.items.length ic2, .slice dA2 pb.data.length dc2, .int .i64 pb.next] 26)) w.heap.size 4 _ _ _ HP.out
  simp only [List.getElem?_toArray, List.getElem?_cons_zero, List.getElem?_cons_succ] at p0 p1 p2 p3 p4
  go_wp2_with fail
  clear p0 p1 p2 p3 p4
  obtain ⟨b4, h4⟩ : ∃ b, w3.heap.size = b := ⟨_, rfl⟩
  rw [h4] at HA HB ⊢
  clear h4
  refine (check_any (hv.ext hE)).mono ?_
  rintro e w4 ⟨n, rfl, hn, hE4⟩
  have HN := Lib.hid hn
  replace HP := Lib.hid (hE4.blk HP.out)
  replace HA := Lib.hid (hE4.blk HA.out)
  replace HB := Lib.hid (hE4.blk HB.out)
  replace hE := hE.trans hE4
  replace q1 := q1.ext hE4
  replace q2 := q2.ext hE4
  replace q3 := q3.ext hE4
  clear hE4 hn
  have p0 := cell_of_row w4 w.heap.size 0 _ _ _ HP.out
  have p1 := cell_of_row w4 w.heap.size 1 _ _ _ HP.out
  have p2 := cell_of_row w4 w.heap.size 2 _ _ _ HP.out
  have p3 := cell_of_row w4 w.heap.size 3 _ _ _ HP.out
  have p4 := cell_of_row w4 w.heap.size 4 _ _ _ HP.out
  simp only [List.getElem?_toArray, List.getElem?_cons_zero, List.getElem?_cons_succ] at p0 p1 p2 p3 p4
  by_cases hgd : OkP p ∧ p.kind ≠ 3 ∧ p.items.length = 8
  rotate_left
  · have hcs : (n != 0) = true ∨ ((n != 0) = false ∧ (p.kind == 3) = true) ∨ ((n != 0) = false ∧ (p.kind == 3) = false ∧ ((p.items.length : Int) != 8) = true) := by
      cases h1 : n != 0
      · have h2 : OkP p := HN.out.1 (by simpa using h1)
        cases h3 : p.kind == 3
        · refine .inr (.inr ⟨rfl, rfl, ?_⟩)
          have : ¬ p.items.length = 8 := fun h => hgd ⟨h2, by simpa using h3, h⟩
          rw [bne_iff_ne]; omega
        · exact .inr (.inl ⟨rfl, rfl⟩)
      · exact .inl rfl
    clear hgd
    cases z
    · rcases hcs with c1 | ⟨c1, c2⟩ | ⟨c1, c2, c3⟩
      all_goals
        go_wp2
        go_ret
        exact ⟨rfl, hE⟩
    · have H8 := Lib.hid (HSL.out HZ.out)
      have c8 : ((p.items.length : Int) == 8) = true := by rw [H8.out]; rfl
      rcases hcs with c1 | ⟨c1, c2⟩ | ⟨c1, c2, c3⟩
      · go_wp2
        go_ret
        exact ⟨rfl, hE⟩
      · go_wp2
        go_ret
        exact ⟨rfl, hE⟩
      · exfalso
        rw [H8.out] at c3
        exact absurd c3 (by decide)
  obtain ⟨g1, g2, g3⟩ := hgd
  obtain ⟨a, b, s, e1, hF, hal, hj⟩ := HLW.out g1 g2 g3
  have e2 : part1 o = a := by rw [e1]; rfl
  have e3 : part2 o = b := by rw [e1]; rfl
  have e4 : part3 o = s := by rw [e1]; rfl
  obtain rfl : a = pa := by rw [← e2]; exact HPA.out
  obtain rfl : b = pb := by rw [← e3]; exact HPB.out
  obtain rfl : s = sp := by rw [← e4]; exact HSP.out
  obtain rfl : z = true := by rw [← HZ.out, e1]; rfl
  have c1 : (n != 0) = false := by rw [HN.out.2 g1]; rfl
  have c2 : (p.kind == 3) = false := by simpa using g2
  have c3 : ((p.items.length : Int) != 8) = false := by rw [g3]; rfl
  have HAL := Lib.hid (show ((a.items.length : Int) != 4) = false by rw [hal]; rfl)
  have HJ := Lib.hid hj
  have HF := Lib.hid hF
  clear e1 e2 e3 e4 hF hal hj g1 g2 g3 HLW HSL HPA HPB HSP HZ
  have a0 := cell_of_row w4 b4 0 _ _ _ HA.out
  have a1 := cell_of_row w4 b4 1 _ _ _ HA.out
  have a2 := cell_of_row w4 b4 2 _ _ _ HA.out
  have a3 := cell_of_row w4 b4 3 _ _ _ HA.out
  have a4 := cell_of_row w4 b4 4 _ _ _ HA.out
  simp only [List.getElem?_toArray, List.getElem?_cons_zero, List.getElem?_cons_succ] at a0 a1 a2 a3 a4
  have b0 := cell_of_row w4 (b4 + 1) 0 _ _ _ HB.out
  have b1 := cell_of_row w4 (b4 + 1) 1 _ _ _ HB.out
  have b2 := cell_of_row w4 (b4 + 1) 2 _ _ _ HB.out
  have b3 := cell_of_row w4 (b4 + 1) 3 _ _ _ HB.out
  have b4 := cell_of_row w4 (b4 + 1) 4 _ _ _ HB.out
  simp only [List.getElem?_toArray, List.getElem?_cons_zero, List.getElem?_cons_succ] at b0 b1 b2 b3 b4
  go_wp2_with fail
  clear p0 p1 p2 p3 p4 a0 a1 a2 a3 a4 b0 b1 b2 b3 b4 c1 c2 c3
  refine (fits_any q1 q2 q3 rfl).mono ?_
  rintro e w5 ⟨z, rfl, hz, hE5⟩
  obtain rfl : z = true := hz.2 HF.out
  replace HP := Lib.hid (hE5.blk HP.out)
  replace HA := Lib.hid (hE5.blk HA.out)
  replace HB := Lib.hid (hE5.blk HB.out)
  replace hE := hE.trans hE5
  replace q1 := q1.ext hE5
  replace q2 := q2.ext hE5
  replace q3 := q3.ext hE5
  clear hE5 hz
  have c4 := HAL.out
  have a0 := cell_of_row w5 b4 0 _ _ _ HA.out
  have a1 := cell_of_row w5 b4 1 _ _ _ HA.out
  have a2 := cell_of_row w5 b4 2 _ _ _ HA.out
  have a3 := cell_of_row w5 b4 3 _ _ _ HA.out
  have a4 := cell_of_row w5 b4 4 _ _ _ HA.out
  simp only [List.getElem?_toArray, List.getElem?_cons_zero, List.getElem?_cons_succ] at a0 a1 a2 a3 a4
  have b0 := cell_of_row w5 (b4 + 1) 0 _ _ _ HB.out
  have b1 := cell_of_row w5 (b4 + 1) 1 _ _ _ HB.out
  have b2 := cell_of_row w5 (b4 + 1) 2 _ _ _ HB.out
  have b3 := cell_of_row w5 (b4 + 1) 3 _ _ _ HB.out
  have b4 := cell_of_row w5 (b4 + 1) 4 _ _ _ HB.out
  simp only [List.getElem?_toArray, List.getElem?_cons_zero, List.getElem?_cons_succ] at b0 b1 b2 b3 b4
  go_wp2_with fail
  clear a0 a1 a2 a3 a4 b0 b1 b2 b3 b4 c4
  refine (njoin_any q1 q2 q3 rfl).mono ?_
  rintro e w6 ⟨v', rfl, hJO, hE6⟩
  rw [HJ.out] at hJO ⊢
  have q6 := hJO.pgv hsm
  replace HP := Lib.hid (hE6.blk HP.out)
  replace hE := hE.trans hE6
  clear hE6 hJO HA HB q1 q2 q3
  obtain ⟨iA6, ic6, dA6, dc6, rfl, _, _⟩ := q6.ex
  have hx := ext_alloc w6 (.cells #[.int .i64 p.kind, .int .i64 p.level, .slice iA6 p.items.length ic6, .slice dA6 p.data.length dc6, .int .i64 p.next] 26)
  have HC := Lib.hid (heap_alloc_new w6 (.cells #[.int .i64 p.kind, .int .i64 p.level, .slice iA6 p.items.length ic6, .slice dA6 p.data.length dc6, .int .i64 p.next] 26))
  replace HP := Lib.hid (hx.blk HP.out)
  replace hE := hE.trans hx
  replace q6 := q6.ext hx
  clear hx
  have p0 := cell_of_row (w6.alloc (.cells #[.int .i64 p.kind, .int .i64 p.level, .slice iA6 p.items.length ic6, .slice dA6 p.data.length dc6, .int .i64 p.next] 26)) w.heap.size 0 _ _ _ HP.out
  have p1 := cell_of_row (w6.alloc (.cells #[.int .i64 p.kind, .int .i64 p.level, .slice iA6 p.items.length ic6, .slice dA6 p.data.length dc6, .int .i64 p.next] 26)) w.heap.size 1 _ _ _ HP.out
  have p2 := cell_of_row (w6.alloc (.cells #[.int .i64 p.kind, .int .i64 p.level, .slice iA6 p.items.length ic6, .slice dA6 p.data.length dc6, .int .i64 p.next] 26)) w.heap.size 2 _ _ _ HP.out
  have p3 := cell_of_row (w6.alloc (.cells #[.int .i64 p.kind, .int .i64 p.level, .slice iA6 p.items.length ic6, .slice dA6 p.data.length dc6, .int .i64 p.next] 26)) w.heap.size 3 _ _ _ HP.out
  have p4 := cell_of_row (w6.alloc (.cells #[.int .i64 p.kind, .int .i64 p.level, .slice iA6 p.items.length ic6, .slice dA6 p.data.length dc6, .int .i64 p.next] 26)) w.heap.size 4 _ _ _ HP.out
  simp only [List.getElem?_toArray, List.getElem?_cons_zero, List.getElem?_cons_succ] at p0 p1 p2 p3 p4
  go_wp2_with fail
  clear p0 p1 p2 p3 p4
  refine (eqPage_any (hv.ext hE) q6).mono ?_
  rintro e w7 ⟨rfl, hE7⟩
  rw [eqPg_self]
  have hEE := hE.trans hE7
  clear hE hE7
  go_wp2
  go_ret
  exact ⟨rfl, hEE⟩
end Go.Proofs.Ytjjbckdiojleeaa
