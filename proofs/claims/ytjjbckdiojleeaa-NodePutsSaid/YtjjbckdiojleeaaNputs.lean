/- The walk of NodePuts. No condition but that what comes in lies in memory. -/
import Derived.Test.YtjjbckdiojleeaaSpit
import Derived.Test.YtjjbckdiojleeaaRrep
import Derived.Test.YtjjbckdiojleeaaRins
namespace Go.Proofs.Ytjjbckdiojleeaa
set_option linter.unusedVariables false
open Go.RowKit Go.Proofs
set_option maxRecDepth 100000 in
set_option maxHeartbeats 4000000 in
theorem puts_any {v u : Value} {p : Pg} {x : It} {at_ : Int} {w : World} (hv : PgV w v p) (hu : ItV w u x) :
    Calls Try.prog 11 #[v, .int .i64 at_, u] w fun e w' => e = .returned (.bool true) ∧ Ext w w' := by
  obtain ⟨iA, ic, dA, dc, rfl, hi, hd⟩ := hv.ex
  obtain ⟨kA, kc, vA, vc, rfl, h1, h2⟩ := hu.ex
  have hsm := hv.small
  have hsx := hu.small
  have si := ins_small (a := at_) hsm hsx
  have sr := rep_small (a := at_) hsm hsx
  have sd := rem_small (a := at_) hsm
  clear hi hd h1 h2
  obtain ⟨pga, hp1⟩ : ∃ q, (insB p at_ x).1 = q := ⟨_, rfl⟩
  obtain ⟨z1, hz1⟩ : ∃ q, (insB p at_ x).2 = q := ⟨_, rfl⟩
  obtain ⟨pgb, hp2⟩ : ∃ q, (repB p at_ x).1 = q := ⟨_, rfl⟩
  obtain ⟨z2, hz2⟩ : ∃ q, (repB p at_ x).2 = q := ⟨_, rfl⟩
  obtain ⟨pgc, hp3⟩ : ∃ q, (remB p at_).1 = q := ⟨_, rfl⟩
  obtain ⟨z3, hz3⟩ : ∃ q, (remB p at_).2 = q := ⟨_, rfl⟩
  rw [hp1] at si
  rw [hp2] at sr
  rw [hp3] at sd
  have HP1 := Lib.hid hp1
  have HZ1 := Lib.hid hz1
  clear hp1 hz1
  have HP2 := Lib.hid hp2
  have HZ2 := Lib.hid hz2
  clear hp2 hz2
  have HP3 := Lib.hid hp3
  have HZ3 := Lib.hid hz3
  clear hp3 hz3
  have HP := Lib.hid ((ext_alloc _ (.cells #[.slice kA x.key.length kc, .slice vA x.val.length vc, .int .i64 x.ch, .int .i64 x.sz] 51)).blk (heap_alloc_new w (.cells #[.int .i64 p.kind, .int .i64 p.level, .slice iA p.items.length ic, .slice dA p.data.length dc, .int .i64 p.next] 26)))
  have HI := Lib.hid (heap_alloc2_new w (.cells #[.int .i64 p.kind, .int .i64 p.level, .slice iA p.items.length ic, .slice dA p.data.length dc, .int .i64 p.next] 26) (.cells #[.slice kA x.key.length kc, .slice vA x.val.length vc, .int .i64 x.ch, .int .i64 x.sz] 51))
  have hE := (ext_alloc w (.cells #[.int .i64 p.kind, .int .i64 p.level, .slice iA p.items.length ic, .slice dA p.data.length dc, .int .i64 p.next] 26)).trans (ext_alloc _ (.cells #[.slice kA x.key.length kc, .slice vA x.val.length vc, .int .i64 x.ch, .int .i64 x.sz] 51))
  go_enter Try.func11, Try.ntmps11
  go_wp2_with fail
  refine (sparePage_any (hv.ext hE)).mono ?_
  rintro e w1 ⟨v, rfl, hS, hE1⟩
  obtain ⟨xg, xps, xd, rfl, _⟩ := hS.ex
  replace HP := Lib.hid (hE1.blk HP.out)
  replace HI := Lib.hid (hE1.blk HI.out)
  replace hE := hE.trans hE1
  clear hE1
  have hx := ext_alloc w1 (.cells #[.int .i64 p.kind, .int .i64 p.level, .slice (some ⟨xg, 0, none⟩) p.items.length (p.items.length + 2), .slice (some ⟨xd, 0, none⟩) p.data.length (p.data.length + 64), .int .i64 p.next] 26)
  have HX := Lib.hid (heap_alloc_new w1 (.cells #[.int .i64 p.kind, .int .i64 p.level, .slice (some ⟨xg, 0, none⟩) p.items.length (p.items.length + 2), .slice (some ⟨xd, 0, none⟩) p.data.length (p.data.length + 64), .int .i64 p.next] 26))
  replace HP := Lib.hid (hx.blk HP.out)
  replace HI := Lib.hid (hx.blk HI.out)
  replace hS := hS.ext hx
  replace hE := hE.trans hx
  clear hx
  have i0 := cell_of_row (w1.alloc (.cells #[.int .i64 p.kind, .int .i64 p.level, .slice (some ⟨xg, 0, none⟩) p.items.length (p.items.length + 2), .slice (some ⟨xd, 0, none⟩) p.data.length (p.data.length + 64), .int .i64 p.next] 26)) (w.heap.size + 1) 0 _ _ _ HI.out
  have i1 := cell_of_row (w1.alloc (.cells #[.int .i64 p.kind, .int .i64 p.level, .slice (some ⟨xg, 0, none⟩) p.items.length (p.items.length + 2), .slice (some ⟨xd, 0, none⟩) p.data.length (p.data.length + 64), .int .i64 p.next] 26)) (w.heap.size + 1) 1 _ _ _ HI.out
  have i2 := cell_of_row (w1.alloc (.cells #[.int .i64 p.kind, .int .i64 p.level, .slice (some ⟨xg, 0, none⟩) p.items.length (p.items.length + 2), .slice (some ⟨xd, 0, none⟩) p.data.length (p.data.length + 64), .int .i64 p.next] 26)) (w.heap.size + 1) 2 _ _ _ HI.out
  have i3 := cell_of_row (w1.alloc (.cells #[.int .i64 p.kind, .int .i64 p.level, .slice (some ⟨xg, 0, none⟩) p.items.length (p.items.length + 2), .slice (some ⟨xd, 0, none⟩) p.data.length (p.data.length + 64), .int .i64 p.next] 26)) (w.heap.size + 1) 3 _ _ _ HI.out
  simp only [List.getElem?_toArray, List.getElem?_cons_zero, List.getElem?_cons_succ] at i0 i1 i2 i3
  go_wp2_with fail
  obtain ⟨bX, hbX⟩ : ∃ b, w1.heap.size = b := ⟨_, rfl⟩
  rw [hbX] at HX ⊢
  clear hbX
  clear i0 i1 i2 i3
  refine (spareItem_any (hu.ext hE)).mono ?_
  rintro e w2 ⟨v, rfl, hY, hE2⟩
  obtain ⟨kg, vg, rfl, _⟩ := hY.ex
  replace HP := Lib.hid (hE2.blk HP.out)
  replace HI := Lib.hid (hE2.blk HI.out)
  replace HX := Lib.hid (hE2.blk HX.out)
  replace hS := hS.ext hE2
  replace hE := hE.trans hE2
  clear hE2
  have hx := ext_alloc w2 (.cells #[.slice (some ⟨kg, 0, none⟩) x.key.length (x.key.length + 64), .slice (some ⟨vg, 0, none⟩) x.val.length (x.val.length + 64), .int .i64 x.ch, .int .i64 x.sz] 51)
  have HY := Lib.hid (heap_alloc_new w2 (.cells #[.slice (some ⟨kg, 0, none⟩) x.key.length (x.key.length + 64), .slice (some ⟨vg, 0, none⟩) x.val.length (x.val.length + 64), .int .i64 x.ch, .int .i64 x.sz] 51))
  replace HP := Lib.hid (hx.blk HP.out)
  replace HI := Lib.hid (hx.blk HI.out)
  replace HX := Lib.hid (hx.blk HX.out)
  replace hS := hS.ext hx
  replace hY := hY.ext hx
  replace hE := hE.trans hx
  clear hx
  have x0 := cell_of_row (w2.alloc (.cells #[.slice (some ⟨kg, 0, none⟩) x.key.length (x.key.length + 64), .slice (some ⟨vg, 0, none⟩) x.val.length (x.val.length + 64), .int .i64 x.ch, .int .i64 x.sz] 51)) bX 0 _ _ _ HX.out
  have x1 := cell_of_row (w2.alloc (.cells #[.slice (some ⟨kg, 0, none⟩) x.key.length (x.key.length + 64), .slice (some ⟨vg, 0, none⟩) x.val.length (x.val.length + 64), .int .i64 x.ch, .int .i64 x.sz] 51)) bX 1 _ _ _ HX.out
  have x2 := cell_of_row (w2.alloc (.cells #[.slice (some ⟨kg, 0, none⟩) x.key.length (x.key.length + 64), .slice (some ⟨vg, 0, none⟩) x.val.length (x.val.length + 64), .int .i64 x.ch, .int .i64 x.sz] 51)) bX 2 _ _ _ HX.out
  have x3 := cell_of_row (w2.alloc (.cells #[.slice (some ⟨kg, 0, none⟩) x.key.length (x.key.length + 64), .slice (some ⟨vg, 0, none⟩) x.val.length (x.val.length + 64), .int .i64 x.ch, .int .i64 x.sz] 51)) bX 3 _ _ _ HX.out
  have x4 := cell_of_row (w2.alloc (.cells #[.slice (some ⟨kg, 0, none⟩) x.key.length (x.key.length + 64), .slice (some ⟨vg, 0, none⟩) x.val.length (x.val.length + 64), .int .i64 x.ch, .int .i64 x.sz] 51)) bX 4 _ _ _ HX.out
  simp only [List.getElem?_toArray, List.getElem?_cons_zero, List.getElem?_cons_succ] at x0 x1 x2 x3 x4
  go_wp2_with fail
  obtain ⟨bY, hbY⟩ : ∃ b, w2.heap.size = b := ⟨_, rfl⟩
  rw [hbY] at HY ⊢
  clear hbY
  clear x0 x1 x2 x3 x4
  refine (ninsert_any (hS.pgv hsm) (hY.itv hsx)).mono ?_
  rintro e w3 ⟨v, rfl, hO, hEn⟩
  rw [HP1.out] at hO
  rw [HZ1.out]
  have q1 := hO.pgv si
  clear hO
  obtain ⟨iA1, ic1, dA1, dc1, rfl, _, _⟩ := q1.ex
  replace HP := Lib.hid (hEn.blk HP.out)
  replace HI := Lib.hid (hEn.blk HI.out)
  replace HX := Lib.hid (hEn.blk HX.out)
  replace HY := Lib.hid (hEn.blk HY.out)
  replace hS := hS.ext hEn
  replace hY := hY.ext hEn
  replace hE := hE.trans hEn
  clear hEn
  have hx := ext_alloc w3 (.cells #[.int .i64 pga.kind, .int .i64 pga.level, .slice iA1 pga.items.length ic1, .slice dA1 pga.data.length dc1, .int .i64 pga.next] 26)
  have HA := Lib.hid (heap_alloc_new w3 (.cells #[.int .i64 pga.kind, .int .i64 pga.level, .slice iA1 pga.items.length ic1, .slice dA1 pga.data.length dc1, .int .i64 pga.next] 26))
  replace HP := Lib.hid (hx.blk HP.out)
  replace HI := Lib.hid (hx.blk HI.out)
  replace HX := Lib.hid (hx.blk HX.out)
  replace HY := Lib.hid (hx.blk HY.out)
  replace hS := hS.ext hx
  replace hY := hY.ext hx
  replace q1 := q1.ext hx
  replace hE := hE.trans hx
  clear hx
  have x0 := cell_of_row (w3.alloc (.cells #[.int .i64 pga.kind, .int .i64 pga.level, .slice iA1 pga.items.length ic1, .slice dA1 pga.data.length dc1, .int .i64 pga.next] 26)) bX 0 _ _ _ HX.out
  have x1 := cell_of_row (w3.alloc (.cells #[.int .i64 pga.kind, .int .i64 pga.level, .slice iA1 pga.items.length ic1, .slice dA1 pga.data.length dc1, .int .i64 pga.next] 26)) bX 1 _ _ _ HX.out
  have x2 := cell_of_row (w3.alloc (.cells #[.int .i64 pga.kind, .int .i64 pga.level, .slice iA1 pga.items.length ic1, .slice dA1 pga.data.length dc1, .int .i64 pga.next] 26)) bX 2 _ _ _ HX.out
  have x3 := cell_of_row (w3.alloc (.cells #[.int .i64 pga.kind, .int .i64 pga.level, .slice iA1 pga.items.length ic1, .slice dA1 pga.data.length dc1, .int .i64 pga.next] 26)) bX 3 _ _ _ HX.out
  have x4 := cell_of_row (w3.alloc (.cells #[.int .i64 pga.kind, .int .i64 pga.level, .slice iA1 pga.items.length ic1, .slice dA1 pga.data.length dc1, .int .i64 pga.next] 26)) bX 4 _ _ _ HX.out
  simp only [List.getElem?_toArray, List.getElem?_cons_zero, List.getElem?_cons_succ] at x0 x1 x2 x3 x4
  have y0 := cell_of_row (w3.alloc (.cells #[.int .i64 pga.kind, .int .i64 pga.level, .slice iA1 pga.items.length ic1, .slice dA1 pga.data.length dc1, .int .i64 pga.next] 26)) bY 0 _ _ _ HY.out
  have y1 := cell_of_row (w3.alloc (.cells #[.int .i64 pga.kind, .int .i64 pga.level, .slice iA1 pga.items.length ic1, .slice dA1 pga.data.length dc1, .int .i64 pga.next] 26)) bY 1 _ _ _ HY.out
  have y2 := cell_of_row (w3.alloc (.cells #[.int .i64 pga.kind, .int .i64 pga.level, .slice iA1 pga.items.length ic1, .slice dA1 pga.data.length dc1, .int .i64 pga.next] 26)) bY 2 _ _ _ HY.out
  have y3 := cell_of_row (w3.alloc (.cells #[.int .i64 pga.kind, .int .i64 pga.level, .slice iA1 pga.items.length ic1, .slice dA1 pga.data.length dc1, .int .i64 pga.next] 26)) bY 3 _ _ _ HY.out
  simp only [List.getElem?_toArray, List.getElem?_cons_zero, List.getElem?_cons_succ] at y0 y1 y2 y3
  go_wp2_with fail
  obtain ⟨bA, hbA⟩ : ∃ b, w3.heap.size = b := ⟨_, rfl⟩
  rw [hbA] at HA ⊢
  clear hbA
  clear x0 x1 x2 x3 x4 y0 y1 y2 y3
  refine (nreplace_any (hS.pgv hsm) (hY.itv hsx)).mono ?_
  rintro e w4 ⟨v, rfl, hO, hEn⟩
  rw [HP2.out] at hO
  rw [HZ2.out]
  have q2 := hO.pgv sr
  clear hO
  obtain ⟨iA2, ic2, dA2, dc2, rfl, _, _⟩ := q2.ex
  replace HP := Lib.hid (hEn.blk HP.out)
  replace HI := Lib.hid (hEn.blk HI.out)
  replace HX := Lib.hid (hEn.blk HX.out)
  replace HY := Lib.hid (hEn.blk HY.out)
  replace HA := Lib.hid (hEn.blk HA.out)
  replace hS := hS.ext hEn
  replace hY := hY.ext hEn
  replace q1 := q1.ext hEn
  replace hE := hE.trans hEn
  clear hEn
  have hx := ext_alloc w4 (.cells #[.int .i64 pgb.kind, .int .i64 pgb.level, .slice iA2 pgb.items.length ic2, .slice dA2 pgb.data.length dc2, .int .i64 pgb.next] 26)
  have HB := Lib.hid (heap_alloc_new w4 (.cells #[.int .i64 pgb.kind, .int .i64 pgb.level, .slice iA2 pgb.items.length ic2, .slice dA2 pgb.data.length dc2, .int .i64 pgb.next] 26))
  replace HP := Lib.hid (hx.blk HP.out)
  replace HI := Lib.hid (hx.blk HI.out)
  replace HX := Lib.hid (hx.blk HX.out)
  replace HY := Lib.hid (hx.blk HY.out)
  replace HA := Lib.hid (hx.blk HA.out)
  replace hS := hS.ext hx
  replace hY := hY.ext hx
  replace q1 := q1.ext hx
  replace q2 := q2.ext hx
  replace hE := hE.trans hx
  clear hx
  have x0 := cell_of_row (w4.alloc (.cells #[.int .i64 pgb.kind, .int .i64 pgb.level, .slice iA2 pgb.items.length ic2, .slice dA2 pgb.data.length dc2, .int .i64 pgb.next] 26)) bX 0 _ _ _ HX.out
  have x1 := cell_of_row (w4.alloc (.cells #[.int .i64 pgb.kind, .int .i64 pgb.level, .slice iA2 pgb.items.length ic2, .slice dA2 pgb.data.length dc2, .int .i64 pgb.next] 26)) bX 1 _ _ _ HX.out
  have x2 := cell_of_row (w4.alloc (.cells #[.int .i64 pgb.kind, .int .i64 pgb.level, .slice iA2 pgb.items.length ic2, .slice dA2 pgb.data.length dc2, .int .i64 pgb.next] 26)) bX 2 _ _ _ HX.out
  have x3 := cell_of_row (w4.alloc (.cells #[.int .i64 pgb.kind, .int .i64 pgb.level, .slice iA2 pgb.items.length ic2, .slice dA2 pgb.data.length dc2, .int .i64 pgb.next] 26)) bX 3 _ _ _ HX.out
  have x4 := cell_of_row (w4.alloc (.cells #[.int .i64 pgb.kind, .int .i64 pgb.level, .slice iA2 pgb.items.length ic2, .slice dA2 pgb.data.length dc2, .int .i64 pgb.next] 26)) bX 4 _ _ _ HX.out
  simp only [List.getElem?_toArray, List.getElem?_cons_zero, List.getElem?_cons_succ] at x0 x1 x2 x3 x4
  go_wp2_with fail
  obtain ⟨bB, hbB⟩ : ∃ b, w4.heap.size = b := ⟨_, rfl⟩
  rw [hbB] at HB ⊢
  clear hbB
  clear x0 x1 x2 x3 x4
  refine (nremove_any (hS.pgv hsm)).mono ?_
  rintro e w5 ⟨v, rfl, hO, hEn⟩
  rw [HP3.out] at hO
  rw [HZ3.out]
  have q3 := hO.pgv sd
  clear hO
  obtain ⟨iA3, ic3, dA3, dc3, rfl, _, _⟩ := q3.ex
  replace HP := Lib.hid (hEn.blk HP.out)
  replace HI := Lib.hid (hEn.blk HI.out)
  replace HX := Lib.hid (hEn.blk HX.out)
  replace HY := Lib.hid (hEn.blk HY.out)
  replace HA := Lib.hid (hEn.blk HA.out)
  replace HB := Lib.hid (hEn.blk HB.out)
  replace hS := hS.ext hEn
  replace hY := hY.ext hEn
  replace q1 := q1.ext hEn
  replace q2 := q2.ext hEn
  replace hE := hE.trans hEn
  clear hEn
  have hx := ext_alloc w5 (.cells #[.int .i64 pgc.kind, .int .i64 pgc.level, .slice iA3 pgc.items.length ic3, .slice dA3 pgc.data.length dc3, .int .i64 pgc.next] 26)
  have HC := Lib.hid (heap_alloc_new w5 (.cells #[.int .i64 pgc.kind, .int .i64 pgc.level, .slice iA3 pgc.items.length ic3, .slice dA3 pgc.data.length dc3, .int .i64 pgc.next] 26))
  replace HP := Lib.hid (hx.blk HP.out)
  replace HI := Lib.hid (hx.blk HI.out)
  replace HX := Lib.hid (hx.blk HX.out)
  replace HY := Lib.hid (hx.blk HY.out)
  replace HA := Lib.hid (hx.blk HA.out)
  replace HB := Lib.hid (hx.blk HB.out)
  replace hS := hS.ext hx
  replace hY := hY.ext hx
  replace q1 := q1.ext hx
  replace q2 := q2.ext hx
  replace q3 := q3.ext hx
  replace hE := hE.trans hx
  clear hx
  have p0 := cell_of_row (w5.alloc (.cells #[.int .i64 pgc.kind, .int .i64 pgc.level, .slice iA3 pgc.items.length ic3, .slice dA3 pgc.data.length dc3, .int .i64 pgc.next] 26)) w.heap.size 0 _ _ _ HP.out
  have p1 := cell_of_row (w5.alloc (.cells #[.int .i64 pgc.kind, .int .i64 pgc.level, .slice iA3 pgc.items.length ic3, .slice dA3 pgc.data.length dc3, .int .i64 pgc.next] 26)) w.heap.size 1 _ _ _ HP.out
  have p2 := cell_of_row (w5.alloc (.cells #[.int .i64 pgc.kind, .int .i64 pgc.level, .slice iA3 pgc.items.length ic3, .slice dA3 pgc.data.length dc3, .int .i64 pgc.next] 26)) w.heap.size 2 _ _ _ HP.out
  have p3 := cell_of_row (w5.alloc (.cells #[.int .i64 pgc.kind, .int .i64 pgc.level, .slice iA3 pgc.items.length ic3, .slice dA3 pgc.data.length dc3, .int .i64 pgc.next] 26)) w.heap.size 3 _ _ _ HP.out
  have p4 := cell_of_row (w5.alloc (.cells #[.int .i64 pgc.kind, .int .i64 pgc.level, .slice iA3 pgc.items.length ic3, .slice dA3 pgc.data.length dc3, .int .i64 pgc.next] 26)) w.heap.size 4 _ _ _ HP.out
  simp only [List.getElem?_toArray, List.getElem?_cons_zero, List.getElem?_cons_succ] at p0 p1 p2 p3 p4
  have i0 := cell_of_row (w5.alloc (.cells #[.int .i64 pgc.kind, .int .i64 pgc.level, .slice iA3 pgc.items.length ic3, .slice dA3 pgc.data.length dc3, .int .i64 pgc.next] 26)) (w.heap.size + 1) 0 _ _ _ HI.out
  have i1 := cell_of_row (w5.alloc (.cells #[.int .i64 pgc.kind, .int .i64 pgc.level, .slice iA3 pgc.items.length ic3, .slice dA3 pgc.data.length dc3, .int .i64 pgc.next] 26)) (w.heap.size + 1) 1 _ _ _ HI.out
  have i2 := cell_of_row (w5.alloc (.cells #[.int .i64 pgc.kind, .int .i64 pgc.level, .slice iA3 pgc.items.length ic3, .slice dA3 pgc.data.length dc3, .int .i64 pgc.next] 26)) (w.heap.size + 1) 2 _ _ _ HI.out
  have i3 := cell_of_row (w5.alloc (.cells #[.int .i64 pgc.kind, .int .i64 pgc.level, .slice iA3 pgc.items.length ic3, .slice dA3 pgc.data.length dc3, .int .i64 pgc.next] 26)) (w.heap.size + 1) 3 _ _ _ HI.out
  simp only [List.getElem?_toArray, List.getElem?_cons_zero, List.getElem?_cons_succ] at i0 i1 i2 i3
  go_wp2_with fail
  obtain ⟨bC, hbC⟩ : ∃ b, w5.heap.size = b := ⟨_, rfl⟩
  rw [hbC] at HC ⊢
  clear hbC
  clear p0 p1 p2 p3 p4 i0 i1 i2 i3
  refine (rinsert_any (hv.ext hE) (hu.ext hE)).mono ?_
  rintro e w6 ⟨v, rfl, hO, hEn⟩
  rw [HP1.out] at hO
  rw [HZ1.out]
  have r1 := hO.pgv si
  clear hO
  obtain ⟨iA4, ic4, dA4, dc4, rfl, _, _⟩ := r1.ex
  replace HP := Lib.hid (hEn.blk HP.out)
  replace HI := Lib.hid (hEn.blk HI.out)
  replace HX := Lib.hid (hEn.blk HX.out)
  replace HY := Lib.hid (hEn.blk HY.out)
  replace HA := Lib.hid (hEn.blk HA.out)
  replace HB := Lib.hid (hEn.blk HB.out)
  replace HC := Lib.hid (hEn.blk HC.out)
  replace hS := hS.ext hEn
  replace hY := hY.ext hEn
  replace q1 := q1.ext hEn
  replace q2 := q2.ext hEn
  replace q3 := q3.ext hEn
  replace hE := hE.trans hEn
  clear hEn
  have hx := ext_alloc w6 (.cells #[.int .i64 pga.kind, .int .i64 pga.level, .slice iA4 pga.items.length ic4, .slice dA4 pga.data.length dc4, .int .i64 pga.next] 26)
  have HD := Lib.hid (heap_alloc_new w6 (.cells #[.int .i64 pga.kind, .int .i64 pga.level, .slice iA4 pga.items.length ic4, .slice dA4 pga.data.length dc4, .int .i64 pga.next] 26))
  replace HP := Lib.hid (hx.blk HP.out)
  replace HI := Lib.hid (hx.blk HI.out)
  replace HX := Lib.hid (hx.blk HX.out)
  replace HY := Lib.hid (hx.blk HY.out)
  replace HA := Lib.hid (hx.blk HA.out)
  replace HB := Lib.hid (hx.blk HB.out)
  replace HC := Lib.hid (hx.blk HC.out)
  replace hS := hS.ext hx
  replace hY := hY.ext hx
  replace q1 := q1.ext hx
  replace q2 := q2.ext hx
  replace q3 := q3.ext hx
  replace r1 := r1.ext hx
  replace hE := hE.trans hx
  clear hx
  have p0 := cell_of_row (w6.alloc (.cells #[.int .i64 pga.kind, .int .i64 pga.level, .slice iA4 pga.items.length ic4, .slice dA4 pga.data.length dc4, .int .i64 pga.next] 26)) w.heap.size 0 _ _ _ HP.out
  have p1 := cell_of_row (w6.alloc (.cells #[.int .i64 pga.kind, .int .i64 pga.level, .slice iA4 pga.items.length ic4, .slice dA4 pga.data.length dc4, .int .i64 pga.next] 26)) w.heap.size 1 _ _ _ HP.out
  have p2 := cell_of_row (w6.alloc (.cells #[.int .i64 pga.kind, .int .i64 pga.level, .slice iA4 pga.items.length ic4, .slice dA4 pga.data.length dc4, .int .i64 pga.next] 26)) w.heap.size 2 _ _ _ HP.out
  have p3 := cell_of_row (w6.alloc (.cells #[.int .i64 pga.kind, .int .i64 pga.level, .slice iA4 pga.items.length ic4, .slice dA4 pga.data.length dc4, .int .i64 pga.next] 26)) w.heap.size 3 _ _ _ HP.out
  have p4 := cell_of_row (w6.alloc (.cells #[.int .i64 pga.kind, .int .i64 pga.level, .slice iA4 pga.items.length ic4, .slice dA4 pga.data.length dc4, .int .i64 pga.next] 26)) w.heap.size 4 _ _ _ HP.out
  simp only [List.getElem?_toArray, List.getElem?_cons_zero, List.getElem?_cons_succ] at p0 p1 p2 p3 p4
  have i0 := cell_of_row (w6.alloc (.cells #[.int .i64 pga.kind, .int .i64 pga.level, .slice iA4 pga.items.length ic4, .slice dA4 pga.data.length dc4, .int .i64 pga.next] 26)) (w.heap.size + 1) 0 _ _ _ HI.out
  have i1 := cell_of_row (w6.alloc (.cells #[.int .i64 pga.kind, .int .i64 pga.level, .slice iA4 pga.items.length ic4, .slice dA4 pga.data.length dc4, .int .i64 pga.next] 26)) (w.heap.size + 1) 1 _ _ _ HI.out
  have i2 := cell_of_row (w6.alloc (.cells #[.int .i64 pga.kind, .int .i64 pga.level, .slice iA4 pga.items.length ic4, .slice dA4 pga.data.length dc4, .int .i64 pga.next] 26)) (w.heap.size + 1) 2 _ _ _ HI.out
  have i3 := cell_of_row (w6.alloc (.cells #[.int .i64 pga.kind, .int .i64 pga.level, .slice iA4 pga.items.length ic4, .slice dA4 pga.data.length dc4, .int .i64 pga.next] 26)) (w.heap.size + 1) 3 _ _ _ HI.out
  simp only [List.getElem?_toArray, List.getElem?_cons_zero, List.getElem?_cons_succ] at i0 i1 i2 i3
  go_wp2_with fail
  obtain ⟨bD, hbD⟩ : ∃ b, w6.heap.size = b := ⟨_, rfl⟩
  rw [hbD] at HD ⊢
  clear hbD
  clear p0 p1 p2 p3 p4 i0 i1 i2 i3
  refine (rreplace_any (hv.ext hE) (hu.ext hE)).mono ?_
  rintro e w7 ⟨v, rfl, hO, hEn⟩
  rw [HP2.out] at hO
  rw [HZ2.out]
  have r2 := hO.pgv sr
  clear hO
  obtain ⟨iA5, ic5, dA5, dc5, rfl, _, _⟩ := r2.ex
  replace HP := Lib.hid (hEn.blk HP.out)
  replace HI := Lib.hid (hEn.blk HI.out)
  replace HX := Lib.hid (hEn.blk HX.out)
  replace HY := Lib.hid (hEn.blk HY.out)
  replace HA := Lib.hid (hEn.blk HA.out)
  replace HB := Lib.hid (hEn.blk HB.out)
  replace HC := Lib.hid (hEn.blk HC.out)
  replace HD := Lib.hid (hEn.blk HD.out)
  replace hS := hS.ext hEn
  replace hY := hY.ext hEn
  replace q1 := q1.ext hEn
  replace q2 := q2.ext hEn
  replace q3 := q3.ext hEn
  replace r1 := r1.ext hEn
  replace hE := hE.trans hEn
  clear hEn
  have hx := ext_alloc w7 (.cells #[.int .i64 pgb.kind, .int .i64 pgb.level, .slice iA5 pgb.items.length ic5, .slice dA5 pgb.data.length dc5, .int .i64 pgb.next] 26)
  have HE := Lib.hid (heap_alloc_new w7 (.cells #[.int .i64 pgb.kind, .int .i64 pgb.level, .slice iA5 pgb.items.length ic5, .slice dA5 pgb.data.length dc5, .int .i64 pgb.next] 26))
  replace HP := Lib.hid (hx.blk HP.out)
  replace HI := Lib.hid (hx.blk HI.out)
  replace HX := Lib.hid (hx.blk HX.out)
  replace HY := Lib.hid (hx.blk HY.out)
  replace HA := Lib.hid (hx.blk HA.out)
  replace HB := Lib.hid (hx.blk HB.out)
  replace HC := Lib.hid (hx.blk HC.out)
  replace HD := Lib.hid (hx.blk HD.out)
  replace hS := hS.ext hx
  replace hY := hY.ext hx
  replace q1 := q1.ext hx
  replace q2 := q2.ext hx
  replace q3 := q3.ext hx
  replace r1 := r1.ext hx
  replace r2 := r2.ext hx
  replace hE := hE.trans hx
  clear hx
  have p0 := cell_of_row (w7.alloc (.cells #[.int .i64 pgb.kind, .int .i64 pgb.level, .slice iA5 pgb.items.length ic5, .slice dA5 pgb.data.length dc5, .int .i64 pgb.next] 26)) w.heap.size 0 _ _ _ HP.out
  have p1 := cell_of_row (w7.alloc (.cells #[.int .i64 pgb.kind, .int .i64 pgb.level, .slice iA5 pgb.items.length ic5, .slice dA5 pgb.data.length dc5, .int .i64 pgb.next] 26)) w.heap.size 1 _ _ _ HP.out
  have p2 := cell_of_row (w7.alloc (.cells #[.int .i64 pgb.kind, .int .i64 pgb.level, .slice iA5 pgb.items.length ic5, .slice dA5 pgb.data.length dc5, .int .i64 pgb.next] 26)) w.heap.size 2 _ _ _ HP.out
  have p3 := cell_of_row (w7.alloc (.cells #[.int .i64 pgb.kind, .int .i64 pgb.level, .slice iA5 pgb.items.length ic5, .slice dA5 pgb.data.length dc5, .int .i64 pgb.next] 26)) w.heap.size 3 _ _ _ HP.out
  have p4 := cell_of_row (w7.alloc (.cells #[.int .i64 pgb.kind, .int .i64 pgb.level, .slice iA5 pgb.items.length ic5, .slice dA5 pgb.data.length dc5, .int .i64 pgb.next] 26)) w.heap.size 4 _ _ _ HP.out
  simp only [List.getElem?_toArray, List.getElem?_cons_zero, List.getElem?_cons_succ] at p0 p1 p2 p3 p4
  go_wp2_with fail
  obtain ⟨bE, hbE⟩ : ∃ b, w7.heap.size = b := ⟨_, rfl⟩
  rw [hbE] at HE ⊢
  clear hbE
  clear p0 p1 p2 p3 p4
  refine (rremove_any (hv.ext hE)).mono ?_
  rintro e w8 ⟨v, rfl, hO, hEn⟩
  rw [HP3.out] at hO
  rw [HZ3.out]
  have r3 := hO.pgv sd
  clear hO
  obtain ⟨iA6, ic6, dA6, dc6, rfl, _, _⟩ := r3.ex
  replace HP := Lib.hid (hEn.blk HP.out)
  replace HI := Lib.hid (hEn.blk HI.out)
  replace HX := Lib.hid (hEn.blk HX.out)
  replace HY := Lib.hid (hEn.blk HY.out)
  replace HA := Lib.hid (hEn.blk HA.out)
  replace HB := Lib.hid (hEn.blk HB.out)
  replace HC := Lib.hid (hEn.blk HC.out)
  replace HD := Lib.hid (hEn.blk HD.out)
  replace HE := Lib.hid (hEn.blk HE.out)
  replace hS := hS.ext hEn
  replace hY := hY.ext hEn
  replace q1 := q1.ext hEn
  replace q2 := q2.ext hEn
  replace q3 := q3.ext hEn
  replace r1 := r1.ext hEn
  replace r2 := r2.ext hEn
  replace hE := hE.trans hEn
  clear hEn
  have hx := ext_alloc w8 (.cells #[.int .i64 pgc.kind, .int .i64 pgc.level, .slice iA6 pgc.items.length ic6, .slice dA6 pgc.data.length dc6, .int .i64 pgc.next] 26)
  have HM := Lib.hid (heap_alloc_new w8 (.cells #[.int .i64 pgc.kind, .int .i64 pgc.level, .slice iA6 pgc.items.length ic6, .slice dA6 pgc.data.length dc6, .int .i64 pgc.next] 26))
  replace HP := Lib.hid (hx.blk HP.out)
  replace HI := Lib.hid (hx.blk HI.out)
  replace HX := Lib.hid (hx.blk HX.out)
  replace HY := Lib.hid (hx.blk HY.out)
  replace HA := Lib.hid (hx.blk HA.out)
  replace HB := Lib.hid (hx.blk HB.out)
  replace HC := Lib.hid (hx.blk HC.out)
  replace HD := Lib.hid (hx.blk HD.out)
  replace HE := Lib.hid (hx.blk HE.out)
  replace hS := hS.ext hx
  replace hY := hY.ext hx
  replace q1 := q1.ext hx
  replace q2 := q2.ext hx
  replace q3 := q3.ext hx
  replace r1 := r1.ext hx
  replace r2 := r2.ext hx
  replace r3 := r3.ext hx
  replace hE := hE.trans hx
  clear hx
  have a0 := cell_of_row (w8.alloc (.cells #[.int .i64 pgc.kind, .int .i64 pgc.level, .slice iA6 pgc.items.length ic6, .slice dA6 pgc.data.length dc6, .int .i64 pgc.next] 26)) bA 0 _ _ _ HA.out
  have a1 := cell_of_row (w8.alloc (.cells #[.int .i64 pgc.kind, .int .i64 pgc.level, .slice iA6 pgc.items.length ic6, .slice dA6 pgc.data.length dc6, .int .i64 pgc.next] 26)) bA 1 _ _ _ HA.out
  have a2 := cell_of_row (w8.alloc (.cells #[.int .i64 pgc.kind, .int .i64 pgc.level, .slice iA6 pgc.items.length ic6, .slice dA6 pgc.data.length dc6, .int .i64 pgc.next] 26)) bA 2 _ _ _ HA.out
  have a3 := cell_of_row (w8.alloc (.cells #[.int .i64 pgc.kind, .int .i64 pgc.level, .slice iA6 pgc.items.length ic6, .slice dA6 pgc.data.length dc6, .int .i64 pgc.next] 26)) bA 3 _ _ _ HA.out
  have a4 := cell_of_row (w8.alloc (.cells #[.int .i64 pgc.kind, .int .i64 pgc.level, .slice iA6 pgc.items.length ic6, .slice dA6 pgc.data.length dc6, .int .i64 pgc.next] 26)) bA 4 _ _ _ HA.out
  simp only [List.getElem?_toArray, List.getElem?_cons_zero, List.getElem?_cons_succ] at a0 a1 a2 a3 a4
  have d0 := cell_of_row (w8.alloc (.cells #[.int .i64 pgc.kind, .int .i64 pgc.level, .slice iA6 pgc.items.length ic6, .slice dA6 pgc.data.length dc6, .int .i64 pgc.next] 26)) bD 0 _ _ _ HD.out
  have d1 := cell_of_row (w8.alloc (.cells #[.int .i64 pgc.kind, .int .i64 pgc.level, .slice iA6 pgc.items.length ic6, .slice dA6 pgc.data.length dc6, .int .i64 pgc.next] 26)) bD 1 _ _ _ HD.out
  have d2 := cell_of_row (w8.alloc (.cells #[.int .i64 pgc.kind, .int .i64 pgc.level, .slice iA6 pgc.items.length ic6, .slice dA6 pgc.data.length dc6, .int .i64 pgc.next] 26)) bD 2 _ _ _ HD.out
  have d3 := cell_of_row (w8.alloc (.cells #[.int .i64 pgc.kind, .int .i64 pgc.level, .slice iA6 pgc.items.length ic6, .slice dA6 pgc.data.length dc6, .int .i64 pgc.next] 26)) bD 3 _ _ _ HD.out
  have d4 := cell_of_row (w8.alloc (.cells #[.int .i64 pgc.kind, .int .i64 pgc.level, .slice iA6 pgc.items.length ic6, .slice dA6 pgc.data.length dc6, .int .i64 pgc.next] 26)) bD 4 _ _ _ HD.out
  simp only [List.getElem?_toArray, List.getElem?_cons_zero, List.getElem?_cons_succ] at d0 d1 d2 d3 d4
  go_wp2_with fail
  obtain ⟨bM, hbM⟩ : ∃ b, w8.heap.size = b := ⟨_, rfl⟩
  rw [hbM] at HM ⊢
  clear hbM
  clear a0 a1 a2 a3 a4 d0 d1 d2 d3 d4
  refine (eqPage_any q1 r1).mono ?_
  rintro e w9 ⟨rfl, hEn⟩
  rw [eqPg_self]
  replace HP := Lib.hid (hEn.blk HP.out)
  replace HI := Lib.hid (hEn.blk HI.out)
  replace HX := Lib.hid (hEn.blk HX.out)
  replace HY := Lib.hid (hEn.blk HY.out)
  replace HB := Lib.hid (hEn.blk HB.out)
  replace HC := Lib.hid (hEn.blk HC.out)
  replace HE := Lib.hid (hEn.blk HE.out)
  replace HM := Lib.hid (hEn.blk HM.out)
  replace hS := hS.ext hEn
  replace hY := hY.ext hEn
  replace q2 := q2.ext hEn
  replace q3 := q3.ext hEn
  replace r2 := r2.ext hEn
  replace r3 := r3.ext hEn
  replace hE := hE.trans hEn
  clear hEn q1 r1
  have b0 := cell_of_row w9 bB 0 _ _ _ HB.out
  have b1 := cell_of_row w9 bB 1 _ _ _ HB.out
  have b2 := cell_of_row w9 bB 2 _ _ _ HB.out
  have b3 := cell_of_row w9 bB 3 _ _ _ HB.out
  have b4 := cell_of_row w9 bB 4 _ _ _ HB.out
  simp only [List.getElem?_toArray, List.getElem?_cons_zero, List.getElem?_cons_succ] at b0 b1 b2 b3 b4
  have e0 := cell_of_row w9 bE 0 _ _ _ HE.out
  have e1 := cell_of_row w9 bE 1 _ _ _ HE.out
  have e2 := cell_of_row w9 bE 2 _ _ _ HE.out
  have e3 := cell_of_row w9 bE 3 _ _ _ HE.out
  have e4 := cell_of_row w9 bE 4 _ _ _ HE.out
  simp only [List.getElem?_toArray, List.getElem?_cons_zero, List.getElem?_cons_succ] at e0 e1 e2 e3 e4
  go_wp2_with fail
  clear b0 b1 b2 b3 b4 e0 e1 e2 e3 e4
  refine (eqPage_any q2 r2).mono ?_
  rintro e w10 ⟨rfl, hEn⟩
  rw [eqPg_self]
  replace HP := Lib.hid (hEn.blk HP.out)
  replace HI := Lib.hid (hEn.blk HI.out)
  replace HX := Lib.hid (hEn.blk HX.out)
  replace HY := Lib.hid (hEn.blk HY.out)
  replace HC := Lib.hid (hEn.blk HC.out)
  replace HM := Lib.hid (hEn.blk HM.out)
  replace hS := hS.ext hEn
  replace hY := hY.ext hEn
  replace q3 := q3.ext hEn
  replace r3 := r3.ext hEn
  replace hE := hE.trans hEn
  clear hEn q2 r2
  have c0 := cell_of_row w10 bC 0 _ _ _ HC.out
  have c1 := cell_of_row w10 bC 1 _ _ _ HC.out
  have c2 := cell_of_row w10 bC 2 _ _ _ HC.out
  have c3 := cell_of_row w10 bC 3 _ _ _ HC.out
  have c4 := cell_of_row w10 bC 4 _ _ _ HC.out
  simp only [List.getElem?_toArray, List.getElem?_cons_zero, List.getElem?_cons_succ] at c0 c1 c2 c3 c4
  have m0 := cell_of_row w10 bM 0 _ _ _ HM.out
  have m1 := cell_of_row w10 bM 1 _ _ _ HM.out
  have m2 := cell_of_row w10 bM 2 _ _ _ HM.out
  have m3 := cell_of_row w10 bM 3 _ _ _ HM.out
  have m4 := cell_of_row w10 bM 4 _ _ _ HM.out
  simp only [List.getElem?_toArray, List.getElem?_cons_zero, List.getElem?_cons_succ] at m0 m1 m2 m3 m4
  go_wp2_with fail
  clear c0 c1 c2 c3 c4 m0 m1 m2 m3 m4
  refine (eqPage_any q3 r3).mono ?_
  rintro e w11 ⟨rfl, hEn⟩
  rw [eqPg_self]
  replace HP := Lib.hid (hEn.blk HP.out)
  replace HI := Lib.hid (hEn.blk HI.out)
  replace HX := Lib.hid (hEn.blk HX.out)
  replace HY := Lib.hid (hEn.blk HY.out)
  replace hS := hS.ext hEn
  replace hY := hY.ext hEn
  replace hE := hE.trans hEn
  clear hEn q3 r3
  have p0 := cell_of_row w11 w.heap.size 0 _ _ _ HP.out
  have p1 := cell_of_row w11 w.heap.size 1 _ _ _ HP.out
  have p2 := cell_of_row w11 w.heap.size 2 _ _ _ HP.out
  have p3 := cell_of_row w11 w.heap.size 3 _ _ _ HP.out
  have p4 := cell_of_row w11 w.heap.size 4 _ _ _ HP.out
  simp only [List.getElem?_toArray, List.getElem?_cons_zero, List.getElem?_cons_succ] at p0 p1 p2 p3 p4
  have x0 := cell_of_row w11 bX 0 _ _ _ HX.out
  have x1 := cell_of_row w11 bX 1 _ _ _ HX.out
  have x2 := cell_of_row w11 bX 2 _ _ _ HX.out
  have x3 := cell_of_row w11 bX 3 _ _ _ HX.out
  have x4 := cell_of_row w11 bX 4 _ _ _ HX.out
  simp only [List.getElem?_toArray, List.getElem?_cons_zero, List.getElem?_cons_succ] at x0 x1 x2 x3 x4
  go_wp2_with fail
  clear p0 p1 p2 p3 p4 x0 x1 x2 x3 x4
  refine (keptPage_any hS (hv.ext hE)).mono ?_
  rintro e w12 ⟨rfl, hEn⟩
  replace HP := Lib.hid (hEn.blk HP.out)
  replace HI := Lib.hid (hEn.blk HI.out)
  replace HX := Lib.hid (hEn.blk HX.out)
  replace HY := Lib.hid (hEn.blk HY.out)
  replace hY := hY.ext hEn
  replace hE := hE.trans hEn
  clear hEn hS
  have i0 := cell_of_row w12 (w.heap.size + 1) 0 _ _ _ HI.out
  have i1 := cell_of_row w12 (w.heap.size + 1) 1 _ _ _ HI.out
  have i2 := cell_of_row w12 (w.heap.size + 1) 2 _ _ _ HI.out
  have i3 := cell_of_row w12 (w.heap.size + 1) 3 _ _ _ HI.out
  simp only [List.getElem?_toArray, List.getElem?_cons_zero, List.getElem?_cons_succ] at i0 i1 i2 i3
  have y0 := cell_of_row w12 bY 0 _ _ _ HY.out
  have y1 := cell_of_row w12 bY 1 _ _ _ HY.out
  have y2 := cell_of_row w12 bY 2 _ _ _ HY.out
  have y3 := cell_of_row w12 bY 3 _ _ _ HY.out
  simp only [List.getElem?_toArray, List.getElem?_cons_zero, List.getElem?_cons_succ] at y0 y1 y2 y3
  go_wp2_with fail
  clear i0 i1 i2 i3 y0 y1 y2 y3
  refine (keptItem_any hY (hu.ext hE)).mono ?_
  rintro e w13 ⟨rfl, hEn⟩
  replace hE := hE.trans hEn
  clear hEn
  go_wp2_with fail
  refine works_any.mono ?_
  rintro e wz ⟨rfl, hEz⟩
  have hEE := hE.trans hEz
  clear hE hEz hY
  go_wp2
  go_ret
  exact ⟨rfl, hEE⟩
end Go.Proofs.Ytjjbckdiojleeaa
