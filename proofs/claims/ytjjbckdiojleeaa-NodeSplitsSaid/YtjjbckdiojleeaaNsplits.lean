/- The walk of NodeSplits. No condition but that what comes in lies in memory. -/
import Derived.Test.YtjjbckdiojleeaaNfinds
import Derived.Test.YtjjbckdiojleeaaNsmall
import Derived.Test.YtjjbckdiojleeaaRsplit
namespace Go.Proofs.Ytjjbckdiojleeaa
set_option linter.unusedVariables false
open Go.RowKit Go.Proofs
set_option maxRecDepth 100000 in
set_option maxHeartbeats 8000000 in
theorem splits_any {v : Value} {p : Pg} {w : World} (hv : PgV w v p) :
    Calls Try.prog 5 #[v] w fun e w' => e = .returned (.bool true) ∧ Ext w w' := by
  obtain ⟨iA, ic, dA, dc, rfl, hi, hd⟩ := hv.ex
  have hsm := hv.small
  have hs3 := split_small hsm
  clear hi hd
  go_enter Try.func5, Try.ntmps5
  go_wp2_with fail
  refine (sparePage_any (hv.ext (ext_alloc _ _))).mono ?_
  rintro e w1 ⟨v, rfl, hS, hE1⟩
  obtain ⟨xg, xps, xd, rfl, _⟩ := hS.ex
  have hP := hE1.blk (heap_alloc_new w (.cells #[.int .i64 p.kind, .int .i64 p.level, .slice iA p.items.length ic, .slice dA p.data.length dc, .int .i64 p.next] 26))
  have hE := (ext_alloc w (.cells #[.int .i64 p.kind, .int .i64 p.level, .slice iA p.items.length ic, .slice dA p.data.length dc, .int .i64 p.next] 26)).trans hE1
  clear hE1
  obtain ⟨b0, hb0⟩ : ∃ b, w.heap.size = b := ⟨_, rfl⟩
  rw [hb0] at hP ⊢
  go_wp2_with fail
  have hX := heap_alloc_new w1 (.cells #[.int .i64 p.kind, .int .i64 p.level, .slice (some ⟨xg, 0, none⟩) p.items.length (p.items.length + 2), .slice (some ⟨xd, 0, none⟩) p.data.length (p.data.length + 64), .int .i64 p.next] 26)
  replace hP := (ext_alloc w1 (.cells #[.int .i64 p.kind, .int .i64 p.level, .slice (some ⟨xg, 0, none⟩) p.items.length (p.items.length + 2), .slice (some ⟨xd, 0, none⟩) p.data.length (p.data.length + 64), .int .i64 p.next] 26)).blk hP
  replace hE := hE.trans (ext_alloc w1 (.cells #[.int .i64 p.kind, .int .i64 p.level, .slice (some ⟨xg, 0, none⟩) p.items.length (p.items.length + 2), .slice (some ⟨xd, 0, none⟩) p.data.length (p.data.length + 64), .int .i64 p.next] 26))
  replace hS := hS.ext (ext_alloc w1 (.cells #[.int .i64 p.kind, .int .i64 p.level, .slice (some ⟨xg, 0, none⟩) p.items.length (p.items.length + 2), .slice (some ⟨xd, 0, none⟩) p.data.length (p.data.length + 64), .int .i64 p.next] 26))
  obtain ⟨b1, hb1⟩ : ∃ b, w1.heap.size = b := ⟨_, rfl⟩
  rw [hb1] at hX ⊢
  refine (nsplit_any (hS.pgv hsm)).mono ?_
  rintro e w2 ⟨v1, v2, A5, c5, rfl, o1, o2, os, hE2⟩
  have q1 := o1.pgv hs3.a
  have q2 := o2.pgv hs3.b
  have q3 := os.sl hs3.c
  replace hP := hE2.blk hP
  replace hX := hE2.blk hX
  replace hS := hS.ext hE2
  replace hE := hE.trans hE2
  clear o1 o2 os hE2
  obtain ⟨pa, hpa⟩ : ∃ x, part1 (splitB p) = x := ⟨_, rfl⟩
  obtain ⟨pb, hpb⟩ : ∃ x, part2 (splitB p) = x := ⟨_, rfl⟩
  obtain ⟨sp, hsp⟩ : ∃ x, part3 (splitB p) = x := ⟨_, rfl⟩
  obtain ⟨z, hz⟩ : ∃ x, (splitB p).isSome = x := ⟨_, rfl⟩
  have sma := hs3.a
  have smb := hs3.b
  have smc := hs3.c
  rw [hpa] at q1 sma
  rw [hpb] at q2 smb
  rw [hsp] at q3 smc ⊢
  rw [hz]
  have HPA := Lib.hid hpa
  have HPB := Lib.hid hpb
  have HSP := Lib.hid hsp
  have HZ := Lib.hid hz
  clear hpa hpb hsp hz hs3
  obtain ⟨iA1, ic1, dA1, dc1, rfl, _, _⟩ := q1.ex
  obtain ⟨iA2, ic2, dA2, dc2, rfl, _, _⟩ := q2.ex
  have hx2 := (ext_alloc w2 (.cells #[.int .i64 pa.kind, .int .i64 pa.level, .slice iA1 pa.items.length ic1, .slice dA1 pa.data.length dc1, .int .i64 pa.next] 26)).trans (ext_alloc _ (.cells #[.int .i64 pb.kind, .int .i64 pb.level, .slice iA2 pb.items.length ic2, .slice dA2 pb.data.length dc2, .int .i64 pb.next] 26))
  have hA := heap_alloc2_old w2 (.cells #[.int .i64 pa.kind, .int .i64 pa.level, .slice iA1 pa.items.length ic1, .slice dA1 pa.data.length dc1, .int .i64 pa.next] 26) (.cells #[.int .i64 pb.kind, .int .i64 pb.level, .slice iA2 pb.items.length ic2, .slice dA2 pb.data.length dc2, .int .i64 pb.next] 26)
  have hB := heap_alloc2_new w2 (.cells #[.int .i64 pa.kind, .int .i64 pa.level, .slice iA1 pa.items.length ic1, .slice dA1 pa.data.length dc1, .int .i64 pa.next] 26) (.cells #[.int .i64 pb.kind, .int .i64 pb.level, .slice iA2 pb.items.length ic2, .slice dA2 pb.data.length dc2, .int .i64 pb.next] 26)
  replace hP := hx2.blk hP
  have p0 := cell_of_row _ b0 0 _ _ _ hP
  have p1 := cell_of_row _ b0 1 _ _ _ hP
  have p2 := cell_of_row _ b0 2 _ _ _ hP
  have p3 := cell_of_row _ b0 3 _ _ _ hP
  have p4 := cell_of_row _ b0 4 _ _ _ hP
  simp at p0 p1 p2 p3 p4
  go_wp2_with fail
  have HP := Lib.hid hP
  have HX := Lib.hid (hx2.blk hX)
  replace hS := hS.ext hx2
  replace hE := hE.trans hx2
  replace q1 := q1.ext hx2
  replace q2 := q2.ext hx2
  replace q3 := q3.ext hx2
  obtain ⟨b4, h4⟩ : ∃ b, w2.heap.size = b := ⟨_, rfl⟩
  rw [h4] at hA hB ⊢
  have HA := Lib.hid hA
  have HB := Lib.hid hB
  clear hP hX hA hB hx2 p0 p1 p2 p3 p4
  refine (rsplit_any (hv.ext hE)).mono ?_
  rintro e w3 ⟨v1, v2, A6, c6, rfl, o1, o2, os, hE3⟩
  rw [HPA.out] at o1
  rw [HPB.out] at o2
  rw [HSP.out] at os ⊢
  rw [HZ.out]
  have r1 := o1.pgv sma
  have r2 := o2.pgv smb
  have r3 := os.sl smc
  clear o1 o2 os
  replace HP := Lib.hid (hE3.blk HP.out)
  replace HX := Lib.hid (hE3.blk HX.out)
  replace HA := Lib.hid (hE3.blk HA.out)
  replace HB := Lib.hid (hE3.blk HB.out)
  replace hS := hS.ext hE3
  replace q1 := q1.ext hE3
  replace q2 := q2.ext hE3
  replace q3 := q3.ext hE3
  replace hE := hE.trans hE3
  obtain ⟨iA3, ic3, dA3, dc3, rfl, _, _⟩ := r1.ex
  obtain ⟨iA4, ic4, dA4, dc4, rfl, _, _⟩ := r2.ex
  have hx3 := (ext_alloc w3 (.cells #[.int .i64 pa.kind, .int .i64 pa.level, .slice iA3 pa.items.length ic3, .slice dA3 pa.data.length dc3, .int .i64 pa.next] 26)).trans (ext_alloc _ (.cells #[.int .i64 pb.kind, .int .i64 pb.level, .slice iA4 pb.items.length ic4, .slice dA4 pb.data.length dc4, .int .i64 pb.next] 26))
  have hC := heap_alloc2_old w3 (.cells #[.int .i64 pa.kind, .int .i64 pa.level, .slice iA3 pa.items.length ic3, .slice dA3 pa.data.length dc3, .int .i64 pa.next] 26) (.cells #[.int .i64 pb.kind, .int .i64 pb.level, .slice iA4 pb.items.length ic4, .slice dA4 pb.data.length dc4, .int .i64 pb.next] 26)
  have hD := heap_alloc2_new w3 (.cells #[.int .i64 pa.kind, .int .i64 pa.level, .slice iA3 pa.items.length ic3, .slice dA3 pa.data.length dc3, .int .i64 pa.next] 26) (.cells #[.int .i64 pb.kind, .int .i64 pb.level, .slice iA4 pb.items.length ic4, .slice dA4 pb.data.length dc4, .int .i64 pb.next] 26)
  clear hE3
  replace HP := Lib.hid (hx3.blk HP.out)
  replace HX := Lib.hid (hx3.blk HX.out)
  replace HA := Lib.hid (hx3.blk HA.out)
  replace HB := Lib.hid (hx3.blk HB.out)
  replace hS := hS.ext hx3
  replace q1 := q1.ext hx3
  replace q2 := q2.ext hx3
  replace q3 := q3.ext hx3
  replace r1 := r1.ext hx3
  replace r2 := r2.ext hx3
  replace r3 := r3.ext hx3
  replace hE := hE.trans hx3
  have a0 := cell_of_row _ b4 0 _ _ _ HA.out
  have a1 := cell_of_row _ b4 1 _ _ _ HA.out
  have a2 := cell_of_row _ b4 2 _ _ _ HA.out
  have a3 := cell_of_row _ b4 3 _ _ _ HA.out
  have a4 := cell_of_row _ b4 4 _ _ _ HA.out
  simp at a0 a1 a2 a3 a4
  go_wp2_with fail
  obtain ⟨b8, h8⟩ : ∃ b, w3.heap.size = b := ⟨_, rfl⟩
  rw [h8] at hC hD ⊢
  have HC := Lib.hid hC
  have HD := Lib.hid hD
  clear hC hD a0 a1 a2 a3 a4
  refine (eqPage_any q1 r1).mono ?_
  rintro e w4 ⟨rfl, hE4⟩
  rw [eqPg_self]
  clear hx3
  replace HP := Lib.hid (hE4.blk HP.out)
  replace HX := Lib.hid (hE4.blk HX.out)
  replace HA := Lib.hid (hE4.blk HA.out)
  replace HB := Lib.hid (hE4.blk HB.out)
  replace HC := Lib.hid (hE4.blk HC.out)
  replace HD := Lib.hid (hE4.blk HD.out)
  replace hS := hS.ext hE4
  replace q2 := q2.ext hE4
  replace q3 := q3.ext hE4
  replace r2 := r2.ext hE4
  replace r3 := r3.ext hE4
  replace hE := hE.trans hE4
  have a0 := cell_of_row _ (b4 + 1) 0 _ _ _ HB.out
  have a1 := cell_of_row _ (b4 + 1) 1 _ _ _ HB.out
  have a2 := cell_of_row _ (b4 + 1) 2 _ _ _ HB.out
  have a3 := cell_of_row _ (b4 + 1) 3 _ _ _ HB.out
  have a4 := cell_of_row _ (b4 + 1) 4 _ _ _ HB.out
  simp at a0 a1 a2 a3 a4
  have d0 := cell_of_row _ (b8 + 1) 0 _ _ _ HD.out
  have d1 := cell_of_row _ (b8 + 1) 1 _ _ _ HD.out
  have d2 := cell_of_row _ (b8 + 1) 2 _ _ _ HD.out
  have d3 := cell_of_row _ (b8 + 1) 3 _ _ _ HD.out
  have d4 := cell_of_row _ (b8 + 1) 4 _ _ _ HD.out
  simp at d0 d1 d2 d3 d4
  go_wp2_with fail
  refine (eqPage_any q2 r2).mono ?_
  rintro e w5 ⟨rfl, hE5⟩
  rw [eqPg_self]
  clear a0 a1 a2 a3 a4 d0 d1 d2 d3 d4
  replace HP := Lib.hid (hE5.blk HP.out)
  replace HX := Lib.hid (hE5.blk HX.out)
  replace hS := hS.ext hE5
  replace q3 := q3.ext hE5
  replace r3 := r3.ext hE5
  replace hE := hE.trans hE5
  go_wp2_with fail
  refine (eqBytes_any q3 r3).mono ?_
  rintro e w6 ⟨rfl, hE6⟩
  rw [eqB_self]
  replace HP := Lib.hid (hE6.blk HP.out)
  replace HX := Lib.hid (hE6.blk HX.out)
  replace hS := hS.ext hE6
  replace hE := hE.trans hE6
  have p0 := cell_of_row _ b0 0 _ _ _ HP.out
  have p1 := cell_of_row _ b0 1 _ _ _ HP.out
  have p2 := cell_of_row _ b0 2 _ _ _ HP.out
  have p3 := cell_of_row _ b0 3 _ _ _ HP.out
  have p4 := cell_of_row _ b0 4 _ _ _ HP.out
  simp at p0 p1 p2 p3 p4
  have x0 := cell_of_row _ b1 0 _ _ _ HX.out
  have x1 := cell_of_row _ b1 1 _ _ _ HX.out
  have x2 := cell_of_row _ b1 2 _ _ _ HX.out
  have x3 := cell_of_row _ b1 3 _ _ _ HX.out
  have x4 := cell_of_row _ b1 4 _ _ _ HX.out
  simp at x0 x1 x2 x3 x4
  go_wp2_with fail
  refine (keptPage_any hS (hv.ext hE)).mono ?_
  rintro e w7 ⟨rfl, hE7⟩
  replace hE := hE.trans hE7
  clear p0 p1 p2 p3 p4 x0 x1 x2 x3 x4
  go_wp2_with fail
  refine works_any.mono ?_
  rintro e w8 ⟨rfl, hE8⟩
  have hEE := hE.trans hE8
  clear hE hE8 hE7 hS
  go_wp2
  go_ret
  exact ⟨rfl, hEE⟩
end Go.Proofs.Ytjjbckdiojleeaa
