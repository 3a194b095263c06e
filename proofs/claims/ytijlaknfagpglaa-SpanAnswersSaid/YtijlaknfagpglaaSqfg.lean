/- SpanAnswers: kept. No condition but sizes. SpanAnswers: spoil. No condition but sizes. -/
import Derived.Test.YtijlaknfagpglaaSqe
namespace Go.Proofs.Ytijlaknfagpglaa
open Go.RowKit Go.Proofs
set_option linter.unusedVariables false
set_option linter.unusedSimpArgs false
theorem rg_inj {f t : Fr} (h : rg f = rg t) : f.lo = t.lo ∧ f.hi = t.hi ∧ f.op = t.op := by
  injection h with h1 h2 h3
  exact ⟨h1, h2, h3⟩
theorem cells_at {w : World} {g : Nat} {fs : List Fr} {t : TypeId} {fr : Nat × Nat} (h : w.heap[g]? = some (.cells (fs.flatMap c3).toArray t fr)) {i : Nat} {f : Fr} (hf : fs[i]? = some f) : w.cell? ⟨g, i * 3, none⟩ = some (.slice f.lA f.lo.length f.lc) ∧ w.cell? ⟨g, i * 3 + 1, none⟩ = some (.slice f.hA f.hi.length f.hc) ∧ w.cell? ⟨g, i * 3 + 2, none⟩ = some (.bool f.op) := by
  have key : ∀ j, j < 3 → w.cell? ⟨g, i * 3 + j, none⟩ = (c3 f)[j]? := fun j hj => by
    rw [cell_of_row w g _ _ _ _ h]
    have := flatN (f := c3) (n := 3) (fun _ => rfl) fs i j f hf hj
    simpa using this
  exact ⟨key 0 (by decide), key 1 (by decide), key 2 (by decide)⟩
set_option maxRecDepth 100000 in
set_option maxHeartbeats 4000000 in
theorem keptq_any {B C : Nat} {w : World} {o p : Opn} (h : OpS B C w o) (k : OpR w p) (he : o.p = p.p) : Calls Try.prog 37 #[o.v, p.v] w fun e w' => e = .returned (.bool true) ∧ Ext w w' := by
  obtain ⟨kd, aA, ac, a, bA, bc, b, ⟨rlA, rlc, rlo, rhA, rhc, rhi, rop⟩, ⟨slA, slc, slo, shA, shc, shi, sop⟩, lA, lc, l⟩ := o
  obtain ⟨kd2, aA2, ac2, a2, bA2, bc2, b2, ⟨rlA2, rlc2, rlo2, rhA2, rhc2, rhi2, rop2⟩, ⟨slA2, slc2, slo2, shA2, shc2, shi2, sop2⟩, lA2, lc2, l2⟩ := p
  simp only [Opn.p, Opp.mk.injEq, Rg.mk.injEq] at he
  obtain ⟨rfl, rfl, rfl, ⟨rfl, rfl, rfl⟩, ⟨rfl, rfl, rfl⟩, hll⟩ := he
  obtain ⟨ha, hb, hrl, hrh, hsl, hsh, hl, gi, tl, hlA, hlc, hgB, hgC, hbl, htl, htr⟩ := h
  obtain ⟨sa, sb, srl, srh, ssl, ssh, sl, hn, hle, hcap, za, zb, zrl, zrh, zsl, zsh, zl⟩ := k
  dsimp only [Opn.v] at ha hb hrl hrh hsl hsh hl hlA hlc hbl htr sa sb srl srh ssl ssh sl hn hle hcap zl ⊢
  clear za zb zrl zrh zsl zsh zl
  have hln : l.length = l2.length := by have := congrArg List.length hll; simpa using this
  obtain ⟨N, hN⟩ : ∃ N, l2.length = N := ⟨_, rfl⟩
  subst hlA hlc
  rw [hN] at hln hn hle
  rw [hN, hln]
  rw [hln] at htr
  have HLN := Lib.hid hln
  have HN := Lib.hid hN
  have HLL := Lib.hid hll
  have HTR := Lib.hid htr
  have HBL := Lib.hid hbl
  have HTL := Lib.hid htl
  have HL := Lib.hid hl
  clear hln hN hll htr hbl htl hl
  have hE0 := (ext_alloc w (Obj.cells #[.int .i64 kd, .slice aA a.length ac, .slice bA b.length bc, .slice rlA rlo.length rlc, .slice rhA rhi.length rhc, .bool rop, .slice slA slo.length slc, .slice shA shi.length shc, .bool sop, .slice (some ⟨gi, 0, none⟩) N (N + 3)] 47)).trans (ext_alloc (w.alloc (Obj.cells #[.int .i64 kd, .slice aA a.length ac, .slice bA b.length bc, .slice rlA rlo.length rlc, .slice rhA rhi.length rhc, .bool rop, .slice slA slo.length slc, .slice shA shi.length shc, .bool sop, .slice (some ⟨gi, 0, none⟩) N (N + 3)] 47)) (Obj.cells #[.int .i64 kd, .slice aA2 a.length ac2, .slice bA2 b.length bc2, .slice rlA2 rlo.length rlc2, .slice rhA2 rhi.length rhc2, .bool rop, .slice slA2 slo.length slc2, .slice shA2 shi.length shc2, .bool sop, .slice lA2 N lc2] 47))
  have hb1 := heap_alloc2_old w (Obj.cells #[.int .i64 kd, .slice aA a.length ac, .slice bA b.length bc, .slice rlA rlo.length rlc, .slice rhA rhi.length rhc, .bool rop, .slice slA slo.length slc, .slice shA shi.length shc, .bool sop, .slice (some ⟨gi, 0, none⟩) N (N + 3)] 47) (Obj.cells #[.int .i64 kd, .slice aA2 a.length ac2, .slice bA2 b.length bc2, .slice rlA2 rlo.length rlc2, .slice rhA2 rhi.length rhc2, .bool rop, .slice slA2 slo.length slc2, .slice shA2 shi.length shc2, .bool sop, .slice lA2 N lc2] 47)
  have hb2 := heap_alloc2_new w (Obj.cells #[.int .i64 kd, .slice aA a.length ac, .slice bA b.length bc, .slice rlA rlo.length rlc, .slice rhA rhi.length rhc, .bool rop, .slice slA slo.length slc, .slice shA shi.length shc, .bool sop, .slice (some ⟨gi, 0, none⟩) N (N + 3)] 47) (Obj.cells #[.int .i64 kd, .slice aA2 a.length ac2, .slice bA2 b.length bc2, .slice rlA2 rlo.length rlc2, .slice rhA2 rhi.length rhc2, .bool rop, .slice slA2 slo.length slc2, .slice shA2 shi.length shc2, .bool sop, .slice lA2 N lc2] 47)
  go_enter Try.func37, Try.ntmps37
  go_wp2_with fail
  refine (kept_spl (ha.ext hE0) (sa.ext hE0) rfl rfl rfl).mono ?_
  rintro e w1 ⟨rfl, hE1⟩
  replace hb1 := hE1.blk hb1
  replace hb2 := hE1.blk hb2
  replace hE0 := hE0.trans hE1
  have x2 := cell_of_row w1 w.heap.size 2 _ _ _ hb1
  have y2 := cell_of_row w1 (w.heap.size + 1) 2 _ _ _ hb2
  simp at x2 y2
  go_wp2_with fail
  refine (kept_spl (hb.ext hE0) (sb.ext hE0) rfl rfl rfl).mono ?_
  clear x2 y2
  rintro e w2 ⟨rfl, hE2⟩
  replace hb1 := hE2.blk hb1
  replace hb2 := hE2.blk hb2
  replace hE0 := hE0.trans hE2
  have x3 := cell_of_row w2 w.heap.size 3 _ _ _ hb1
  have y3 := cell_of_row w2 (w.heap.size + 1) 3 _ _ _ hb2
  have x4 := cell_of_row w2 w.heap.size 4 _ _ _ hb1
  have y4 := cell_of_row w2 (w.heap.size + 1) 4 _ _ _ hb2
  have x5 := cell_of_row w2 w.heap.size 5 _ _ _ hb1
  have y5 := cell_of_row w2 (w.heap.size + 1) 5 _ _ _ hb2
  simp at x3 y3 x4 y4 x5 y5
  go_wp2_with fail
  refine (keptRange_any (hrl.ext hE0) (hrh.ext hE0) (srl.ext hE0) (srh.ext hE0) rfl rfl rfl rfl rfl rfl rfl).mono ?_
  clear x3 y3 x4 y4 x5 y5
  rintro e w3 ⟨rfl, hE3⟩
  replace hb1 := hE3.blk hb1
  replace hb2 := hE3.blk hb2
  replace hE0 := hE0.trans hE3
  have x6 := cell_of_row w3 w.heap.size 6 _ _ _ hb1
  have y6 := cell_of_row w3 (w.heap.size + 1) 6 _ _ _ hb2
  have x7 := cell_of_row w3 w.heap.size 7 _ _ _ hb1
  have y7 := cell_of_row w3 (w.heap.size + 1) 7 _ _ _ hb2
  have x8 := cell_of_row w3 w.heap.size 8 _ _ _ hb1
  have y8 := cell_of_row w3 (w.heap.size + 1) 8 _ _ _ hb2
  simp at x6 y6 x7 y7 x8 y8
  go_wp2_with fail
  refine (keptRange_any (hsl.ext hE0) (hsh.ext hE0) (ssl.ext hE0) (ssh.ext hE0) rfl rfl rfl rfl rfl rfl rfl).mono ?_
  clear x6 y6 x7 y7 x8 y8
  rintro e w4 ⟨rfl, hE4⟩
  replace hb1 := hE4.blk hb1
  replace hb2 := hE4.blk hb2
  replace hE0 := hE0.trans hE4
  have x9 := cell_of_row w4 w.heap.size 9 _ _ _ hb1
  have y9 := cell_of_row w4 (w.heap.size + 1) 9 _ _ _ hb2
  simp at x9 y9
  have hnn : ((N : Int) == (N : Int)) = true := beq_self_eq_true _
  have HB1 := Lib.hid hb1
  have HB2 := Lib.hid hb2
  clear hE1 hE2 hE3 hE4 hb1 hb2 ha hb hrl hrh hsl hsh sa sb srl srh ssl ssh
  go_wp2
  clear x9 y9 hnn
  go_loopw [6] (fun ii wr => ∃ i : Nat, i ≤ N + 3 ∧ ii = .int .i64 i ∧ Ext w4 wr) (fun ii _ => N + 3 - (intOf ii).toNat)
  case atStart => exact ⟨0, Nat.zero_le _, rfl, Below.refl _ _⟩
  case round =>
    obtain ⟨i, hi, rfl, hx⟩ := hrel
    have hb1 := hx.blk HB1.out
    have hb2 := hx.blk HB2.out
    have hEr := hE0.trans hx
    have hbl := hEr.blk HBL.out
    have x9 := cell_of_row wr w.heap.size 9 _ _ _ hb1
    have y9 := cell_of_row wr (w.heap.size + 1) 9 _ _ _ hb2
    simp at x9 y9
    by_cases hlt : i < N + 3
    · by_cases hil : i < N
      · obtain ⟨f, hf⟩ : ∃ f, l[i]? = some f := ⟨_, List.getElem?_eq_getElem (by rw [HLN.out]; exact hil)⟩
        obtain ⟨t, ht⟩ : ∃ t, l2[i]? = some t := ⟨_, List.getElem?_eq_getElem (by rw [HN.out]; exact hil)⟩
        obtain ⟨z0, z1, z2⟩ := cells_at hbl (i := i) (f := f) (by rw [List.getElem?_append_left (by rw [HLN.out]; exact hil)]; exact hf)
        obtain ⟨g, of, rfl, hrd⟩ := sl.rd (by rw [HN.out]; omega)
        have k1 := (hrd i t ht).ext hEr
        obtain ⟨s1, s2⟩ := sl.ls t (List.mem_of_getElem? ht)
        obtain ⟨p1, p2⟩ := HL.out f (List.mem_of_getElem? hf)
        have hft : rg f = rg t := by
          have h1 := congrArg (fun q => q[i]?) HLL.out
          simp only [List.getElem?_map, hf, ht, Option.map_some, Option.some.injEq] at h1
          exact h1
        obtain ⟨e1, e2, e3⟩ := rg_inj hft
        obtain ⟨flA, flc, flo, fhA, fhc, fhi, fop⟩ := f
        obtain ⟨tlA, tlc, tlo, thA, thc, thi, top⟩ := t
        dsimp only at e1 e2 e3
        subst e1 e2 e3
        have v0 := k1.c0
        have v1 := k1.c1
        have v2 := k1.c2
        dsimp only at z0 z1 z2 v0 v1 v2 s1 s2 p1 p2
        clear hf ht hrd k1 hft hbl
        go_wp2
        refine wp_region_mild 10 (fun i => match i with
          | 9 => some fun _ v _ => v = .bool true
          | _ => none) (by kernel_rfl) (by kernel_rfl) (fun W K hW hN => ?_)
        have q0 : ∀ w', Ext W w' → _ := fun w' h => (hW.trans h).cell z0
        have q1 : ∀ w', Ext W w' → _ := fun w' h => (hW.trans h).cell z1
        have q2 : ∀ w', Ext W w' → _ := fun w' h => (hW.trans h).cell z2
        have r0 : ∀ w', Ext W w' → _ := fun w' h => (hW.trans h).cell v0
        have r1 : ∀ w', Ext W w' → _ := fun w' h => (hW.trans h).cell v1
        have r2 : ∀ w', Ext W w' → _ := fun w' h => (hW.trans h).cell v2
        have r9 : ∀ w', Ext W w' → _ := fun w' h => (hW.trans h).cell y9
        simp only [List.take_succ_cons, List.take_zero]
        repeat (apply wpM_one; (case hg => rfl); (case hsp => rfl); (case hv => (intro w' hw'; go_simp; exact rfl)); simp only [Act.put, List.setIfInBounds_toArray, List.set_cons_succ, List.set_cons_zero])
        refine wpM_new _ rfl rfl (fun V v => Stable.pure) (fun V V' h => rfl) (fun w' hw' hK => ?_) (fun v hv => ?_)
        · have hEw := hEr.trans (hW.trans hw')
          unfold mildAt; go_simp; rw [mildUpon_enter]
          refine ⟨Below.refl _ _, (keptRange_any (p1.ext hEw) (p2.ext hEw) (s1.ext hEw) (s2.ext hEw) rfl rfl rfl rfl rfl rfl rfl).mono ?_⟩
          rintro e w6 ⟨rfl, hE6⟩
          exact ⟨_, rfl, hE6, rfl⟩
        obtain ⟨_, _, _, rfl⟩ := hv
        simp only [Act.put, List.setIfInBounds_toArray, List.set_cons_succ, List.set_cons_zero]
        apply wpM_nil
        apply hN
        intro w6 hE6 hK
        clear hK hN q0 q1 q2 r0 r1 r2 r9
        have hx6 := hx.trans (hW.trans hE6)
        clear hW hE6
        simp only [List.drop_succ_cons, List.drop_zero]
        go_wp2
        go_roundw
        case rel => exact ⟨i + 1, by omega, by go_num, hx6⟩
        case measure => simp [intOf]; omega
      · obtain ⟨j, rfl⟩ : ∃ j, i = N + j := ⟨i - N, by omega⟩
        obtain ⟨t, ht⟩ : ∃ t, tl[j]? = some t := ⟨_, List.getElem?_eq_getElem (by rw [HTL.out]; omega)⟩
        obtain ⟨z0, z1, z2⟩ := cells_at hbl (i := N + j) (f := t) (by rw [List.getElem?_append_right (by rw [HLN.out]; omega), HLN.out, Nat.add_sub_cancel_left]; exact ht)
        obtain ⟨t1, t2, t3, t4, t5, t6, gt, t7, t8, t9, t10⟩ := HTR.out j t ht
        obtain ⟨tlA, tlc, tlo, thA, thc, thi, top⟩ := t
        dsimp only at t1 t2 t3 t4 t5 t6 t7 t10 z0 z1 z2
        subst t1 t2 t3 t4 t5 t6 t7
        obtain ⟨i, hij⟩ : ∃ i, N + j = i := ⟨_, rfl⟩
        rw [hij] at z0 z1 z2 hi hlt hil t10 ⊢
        clear ht hij hbl
        have hil2 : N ≤ i := by omega
        have T10 := Lib.hid t10
        clear t10
        go_wp2_with fail
        refine calls_cutM (fun W => Ext wr W ∧ W.heap[wr.heap.size]? = some (.cells (cells8 [b8 (i : Int), 200]).toArray 5 (0, 0))) ⟨ext_alloc _ _, ?_⟩ ?_
        · rw [heap_alloc_new]
          simp [cells8, cell8, b8_toNat]
          omega
        rintro W ⟨hEx, hbW⟩
        have hEw := hEr.trans hEx
        have hn0 : ∀ W : World, Sl W none 0 [] := fun W => ⟨Rd.nil _ _, by simp, by simp, by omega⟩
        have HEQ := Lib.hid (show eqR3 [b8 (i : Int), 200] [] true [b8 (i : Int), 200] [] true = true by simp [eqR3, eqB])
        refine (eqRange_any (op := true) (oq := true) (Sl.lit _ _ (hEw.blk T10.out) (by simp)) (hn0 _) (Sl.lit _ _ hbW (by simp)) (hn0 _) rfl rfl rfl rfl).mono ?_
        rintro e w6 ⟨rfl, hE6⟩
        rw [HEQ.out]
        have hx6 := hx.trans (hEx.trans hE6)
        clear hEw hEx hbW hE6
        go_wp2
        go_roundw
        case rel => exact ⟨i + 1, by omega, by go_num, hx6⟩
        case measure => simp [intOf]; omega
    · have hki : ¬ (i : Int) < (N : Int) + 3 := by omega
      obtain rfl : i = N + 3 := by omega
      go_wp2
      go_ret
      exact ⟨rfl, hEr⟩
end Go.Proofs.Ytijlaknfagpglaa

namespace Go.Proofs.Ytijlaknfagpglaa
open Go.RowKit Go.Proofs
set_option linter.unusedVariables false
set_option linter.unusedSimpArgs false
/-- A list with room behind it, whatever its bytes. -/
def Sp8 (B C : Nat) (w : World) (v : Value) : Prop := ∃ (g n : Nat) (full : List UInt8), v = .slice (some ⟨g, 0, none⟩) n (n + 64) ∧ B ≤ g ∧ g < C ∧ full.length = n + 64 ∧ n ≤ 140737488351232 ∧ Blk 5 w g full
theorem Sp8.of {B C : Nat} {w : World} {A : Option Addr} {c : Nat} {bs : List UInt8} (h : SpL B C w A c bs) (hs : smallL bs) : Sp8 B C w (.slice A bs.length c) := by
  obtain ⟨g, rfl, rfl, h1, h2, h3⟩ := h
  exact ⟨g, bs.length, _, rfl, h1, h2, by simp [length_marks], hs, h3⟩
theorem Sp8.ext {B C : Nat} {w w' : World} {v : Value} (h : Sp8 B C w v) (he : Ext w w') : Sp8 B C w' v := by
  obtain ⟨g, n, full, h1, h2, h3, h4, h5, h6⟩ := h
  exact ⟨g, n, full, h1, h2, h3, h4, h5, Blk.ext h6 he⟩
theorem Sp8.store {B C g k : Nat} {w : World} {v : Value} {b : UInt8} (h : Sp8 B C w v) : Sp8 B C (w.setCell ⟨g, k, none⟩ (.int .u8 (b.toNat : Int))) v := by
  obtain ⟨q, n, full, h1, h2, h3, h4, h5, h6⟩ := h
  by_cases e : q = g
  · subst e
    exact ⟨q, n, full.set k b, h1, h2, h3, by simpa using h4, h5, Blk.set_ h6 k b⟩
  · exact ⟨q, n, full, h1, h2, h3, h4, h5, (heap_setCell_other w ⟨g, k, none⟩ q _ e).trans h6⟩
theorem Sp8.storeX {B C g k : Nat} {w : World} {v : Value} {E : Int} (hb : ∃ b : UInt8, E = (b.toNat : Int)) (h : Sp8 B C w v) : Sp8 B C (w.setCell ⟨g, k, none⟩ (.int .u8 E)) v := by
  obtain ⟨b, rfl⟩ := hb
  exact h.store
def DS (B C : Nat) : Nat → Obj → Prop := fun k o => B ≤ k ∧ k < C ∧ ∃ cs fr, o = Obj.cells cs 5 fr
theorem setCell_ds {B C g k : Nat} {w : World} {v : Value} {full : List UInt8} (h : Blk 5 w g full) (h1 : B ≤ g) (h2 : g < C) : Exc (DS B C) w (w.setCell ⟨g, k, none⟩ v) :=
  Exc.of_only (g := g) ⟨rfl, rfl, rfl, by simp, fun q _ hq => heap_setCell_other w ⟨g, k, none⟩ q _ (fun e => hq (by simp [e]))⟩ (fun o ho => by rw [show w.heap[g]? = _ from h] at ho; injection ho with ho; exact ⟨h1, h2, _, _, ho.symm⟩)
theorem Sp8.sl {B C : Nat} {w : World} {A : Option Addr} {c n : Nat} (h : Sp8 B C w (.slice A n c)) : ∃ bs, bs.length = n ∧ smallL bs ∧ Sl w A c bs := by
  obtain ⟨g, m, full, e, h2, h3, h4, h5, h6⟩ := h
  injection e with e1 e2 e3
  subst e1 e2 e3
  have hl : (full.take n).length = n := by rw [List.length_take]; omega
  refine ⟨full.take n, hl, by unfold smallL; omega, ?_⟩
  have := Blk.sl h6 (bs := full.take n) (by rw [hl]) (by rw [hl]; omega) (by omega) (by omega)
  rwa [h4] at this
theorem xor8_byte (x y : Int) : ∃ b : UInt8, bits .xor .u8 x y = (b.toNat : Int) := by
  refine ⟨b8 (bits .xor .u8 x y), ?_⟩
  rw [b8_toNat]
  have : ∃ z, bits .xor .u8 x y = IntKind.u8.wrap z := ⟨_, rfl⟩
  obtain ⟨z, hz⟩ := this
  rw [hz, IntKind.wrap_u8]
  omega
/-- A call that lies where v says, whatever its bytes. -/
def SpoilV (v : Value) (w : World) : Prop := ∃ o2 : Opn, o2.v = v ∧ OpR w o2
theorem re_list {P : Fr → List UInt8 → List UInt8 → Prop} : ∀ (fs : List Fr), (∀ f ∈ fs, ∃ lo hi, lo.length = f.lo.length ∧ hi.length = f.hi.length ∧ P f lo hi) → ∃ gs : List Fr, gs.flatMap c3 = fs.flatMap c3 ∧ gs.length = fs.length ∧ ∀ g ∈ gs, ∃ f ∈ fs, g.lA = f.lA ∧ g.lc = f.lc ∧ g.hA = f.hA ∧ g.hc = f.hc ∧ P f g.lo g.hi
  | [], _ => ⟨[], rfl, rfl, fun g h => by cases h⟩
  | f :: fs, h => by
    obtain ⟨gs, h1, h2, h3⟩ := re_list fs (fun t ht => h t (.tail _ ht))
    obtain ⟨lo, hi, e1, e2, hP⟩ := h f (.head _)
    refine ⟨⟨f.lA, f.lc, lo, f.hA, f.hc, hi, f.op⟩ :: gs, ?_, by simp [h2], fun g hg => ?_⟩
    · rw [List.flatMap_cons, List.flatMap_cons, h1]
      simp [e1, e2]
    · rcases List.mem_cons.1 hg with rfl | hg
      · exact ⟨f, .head _, rfl, rfl, rfl, rfl, hP⟩
      · obtain ⟨t, ht, z⟩ := h3 g hg
        exact ⟨t, .tail _ ht, z⟩
set_option maxRecDepth 100000 in
set_option maxHeartbeats 4000000 in
theorem spoil_any {B C : Nat} {w : World} {o : Opn} (h : OpS B C w o) (hz : smallL o.a ∧ smallL o.b ∧ smallL o.r.lo ∧ smallL o.r.hi ∧ smallL o.s.lo ∧ smallL o.s.hi ∧ ∀ f ∈ o.l, smallL f.lo ∧ smallL f.hi) (hn60 : o.l.length ≤ 60) (hCw : C ≤ w.heap.size) :
    Calls Try.prog 38 #[o.v] w fun e w' => e = .returned (.tuple #[]) ∧ SpoilV o.v w' ∧ Exc (DS B C) w w' := by
  obtain ⟨i1, hi1, hy0, hy1, hy2⟩ := info_parts infoSlB
  obtain ⟨kd, aA, ac, a, bA, bc, b, ⟨rlA, rlc, rlo, rhA, rhc, rhi, rop⟩, ⟨slA, slc, slo, shA, shc, shi, sop⟩, lA, lc, fs⟩ := o
  obtain ⟨ha, hb, hrl, hrh, hsl, hsh, hl, gi, tl, hlA, hlc, hgB, hgC, hbl, htl, htr⟩ := h
  obtain ⟨za, zb, zrl, zrh, zsl, zsh, zl⟩ := hz
  dsimp only [Opn.v] at ha hb hrl hrh hsl hsh hl hlA hlc hbl htr za zb zrl zrh zsl zsh zl hn60 ⊢
  have HLC := Lib.hid hlc
  have HLA := Lib.hid hlA
  have HBL := Lib.hid hbl
  have H8 := Lib.hid (show ∀ v ∈ [Value.slice aA a.length ac, .slice bA b.length bc, .slice rlA rlo.length rlc, .slice rhA rhi.length rhc, .slice slA slo.length slc, .slice shA shi.length shc] ++ fs.flatMap fv, Sp8 B C w v from by
    intro v hv
    rcases List.mem_append.1 hv with hv | hv
    · simp only [List.mem_cons, List.not_mem_nil, or_false] at hv
      rcases hv with rfl | rfl | rfl | rfl | rfl | rfl
      · exact Sp8.of ha za
      · exact Sp8.of hb zb
      · exact Sp8.of hrl zrl
      · exact Sp8.of hrh zrh
      · exact Sp8.of hsl zsl
      · exact Sp8.of hsh zsh
    · obtain ⟨f, hf, hv⟩ := List.mem_flatMap.1 hv
      simp only [List.mem_cons, List.not_mem_nil, or_false] at hv
      rcases hv with rfl | rfl
      · exact Sp8.of (hl f hf).1 (zl f hf).1
      · exact Sp8.of (hl f hf).2 (zl f hf).2)
  have hr : RowR w lA fs := by
    refine ⟨fun hn0 => ⟨gi, 0, hlA, fun i f hf => ?_⟩, fun f hf => ⟨(hl f hf).1.sl (Nat.le_trans (zl f hf).1 (by omega)), (hl f hf).2.sl (Nat.le_trans (zl f hf).2 (by omega))⟩⟩
    obtain ⟨z0, z1, z2⟩ := cells_at hbl (i := i) (f := f) (by rw [List.getElem?_append_left (List.getElem?_eq_some_iff.1 hf).1]; exact hf)
    rw [Nat.zero_add]
    exact ⟨z0, z1, z2⟩
  have hb1 := heap_alloc_new w (Obj.cells #[.int .i64 kd, .slice aA a.length ac, .slice bA b.length bc, .slice rlA rlo.length rlc, .slice rhA rhi.length rhc, .bool rop, .slice slA slo.length slc, .slice shA shi.length shc, .bool sop, .slice lA fs.length lc] 47)
  have hE1 := ext_alloc w (Obj.cells #[.int .i64 kd, .slice aA a.length ac, .slice bA b.length bc, .slice rlA rlo.length rlc, .slice rhA rhi.length rhc, .bool rop, .slice slA slo.length slc, .slice shA shi.length shc, .bool sop, .slice lA fs.length lc] 47)
  clear hlA hlc hbl ha hb hrl hrh hsl hsh hl htr htl za zb zrl zrh zsl zsh zl
  go_enter Try.func38, Try.ntmps38
  go_wp2
  go_loopw [2, 3] (fun o ii wr => ∃ (i n : Nat) (A : Option Addr) (c : Nat), i ≤ fs.length ∧ Hid (n = 6 + 2 * i) ∧ ii = .int .i64 i ∧ o = .slice A n c ∧ LsS w (Obj.cells #[.int .i64 kd, .slice aA a.length ac, .slice bA b.length bc, .slice rlA rlo.length rlc, .slice rhA rhi.length rhc, .bool rop, .slice slA slo.length slc, .slice shA shi.length shc, .bool sop, .slice lA fs.length lc] 47) (.slice A n c) n ([Value.slice aA a.length ac, .slice bA b.length bc, .slice rlA rlo.length rlc, .slice rhA rhi.length rhc, .slice slA slo.length slc, .slice shA shi.length shc] ++ (fs.take i).flatMap fv) wr) (fun _ ii _ => fs.length - (intOf ii).toNat)
  case atStart =>
    refine ⟨0, 6, _, _, Nat.zero_le _, Lib.hid rfl, rfl, rfl, ?_⟩
    rw [List.take_zero, List.flatMap_nil, List.append_nil]
    refine ⟨?_, (ext_alloc _ _).blk hb1, hE1.trans (ext_alloc _ _)⟩
    have := World.ownsRow_lit (base := w.heap.size + 1) (e := 22) (size := 1) (w.alloc (Obj.cells #[.int .i64 kd, .slice aA a.length ac, .slice bA b.length bc, .slice rlA rlo.length rlc, .slice rhA rhi.length rhc, .bool rop, .slice slA slo.length slc, .slice shA shi.length shc, .bool sop, .slice lA fs.length lc] 47)) #[.slice aA a.length ac, .slice bA b.length bc, .slice rlA rlo.length rlc, .slice rhA rhi.length rhc, .slice slA slo.length slc, .slice shA shi.length shc] 6 (by simp) (by decide) rfl
    rw [World.size_alloc] at this
    exact own_mono this (by omega)
  case round =>
    obtain ⟨i, n, A, c, hi, HN, rfl, rfl, hS⟩ := hrel
    clear hb1 hE1
    have hbx := hS.box
    have p2 := cell_of_row wr w.heap.size 9 _ _ _ hbx
    simp only [List.getElem?_toArray, List.getElem?_cons_zero, List.getElem?_cons_succ] at p2
    by_cases hlt : i < fs.length
    · have hii : (i : Int) < (fs.length : Int) := by omega
      obtain ⟨g, of, rfl, hrd⟩ := hr.rd (by omega)
      obtain ⟨f, hf⟩ : ∃ f, fs[i]? = some f := ⟨_, List.getElem?_eq_getElem hlt⟩
      have k1 := hrd i f hf
      have z0 := k1.c0
      have z1 := k1.c1
      have HTK := Lib.hid (show (fs.take (i + 1)).flatMap fv = (fs.take i).flatMap fv ++ fv f by rw [List.take_add_one, hf]; simp)
      obtain ⟨flA, flc, flo, fhA, fhc, fhi, fop⟩ := f
      dsimp only at z0 z1
      have hnx := HN.out
      have hnb : n ≤ 200 := by omega
      have hD : ∀ (k : Nat) (o : Obj), (Value.slice A n c).ownBlock = some k → k < wr.heap.size := fun k _ hk => (hS.own.lt k hk).2
      have hDw : ∀ (k : Nat) (o : Obj), (Value.slice A n c).ownBlock = some k → w.heap.size + 1 ≤ k := fun k _ hk => (hS.own.lt k hk).1
      clear hf hrd k1 hnx
      generalize hxs : ([Value.slice aA a.length ac, .slice bA b.length bc, .slice rlA rlo.length rlc, .slice rhA rhi.length rhc, .slice slA slo.length slc, .slice shA shi.length shc] ++ (fs.take i).flatMap fv) = xs at hS
      have HXS := Lib.hid hxs
      have hws := hS.ext.size
      clear hxs
      go_wp2
      refine wp_region_rg (Exc (fun k _ => (Value.slice A n c).ownBlock = some k)) (rel_exc _) (fun w' => LsS w (Obj.cells #[.int .i64 kd, .slice aA a.length ac, .slice bA b.length bc, .slice rlA rlo.length rlc, .slice rhA rhi.length rhc, .bool rop, .slice slA slo.length slc, .slice shA shi.length shc, .bool sop, .slice (some ⟨g, of, none⟩) fs.length lc] 47) (.slice A n c) n xs w') [0, 1, 2, 3, 4, 5, 6, 7, 8, 9, 10, 11, 12, 13, 14, 15] (fun i => match i with
        | 13 => some fun V => BuiltS 22 wr.heap.size #[V 6, V 12]
        | _ => none) (fun i => match i with
        | 14 => some fun V v w' => ∃ A c, v = .slice A (n + 2) c ∧ LsS w (Obj.cells #[.int .i64 kd, .slice aA a.length ac, .slice bA b.length bc, .slice rlA rlo.length rlc, .slice rhA rhi.length rhc, .bool rop, .slice slA slo.length slc, .slice shA shi.length shc, .bool sop, .slice (some ⟨g, of, none⟩) fs.length lc] 47) (.slice A (n + 2) c) (n + 2) (xs ++ [.slice flA flo.length flc, .slice fhA fhi.length fhc]) w'
        | _ => none) (fun _ => false) (by kernel_rfl) (by kernel_rfl) (fun _ _ h he => h.more he) (hS.more (ext_drew _)) (fun W N hW hF0 hN => ?_)
      have hEW : Exc (fun k _ => (Value.slice A n c).ownBlock = some k) wr W := Exc.of_ext hW
      have hX : ∀ w', Exc (fun k _ => (Value.slice A n c).ownBlock = some k) W w' → Exc (fun k _ => (Value.slice A n c).ownBlock = some k) wr w' := fun w' h => hEW.trans h
      have e2 : ∀ w', Exc (fun k _ => (Value.slice A n c).ownBlock = some k) W w' → w'.cell? ⟨w.heap.size, 9, none⟩ = some (.slice (some ⟨g, of, none⟩) fs.length lc) := fun w' h => cell_of_row _ _ _ _ _ _ ((hX w' h).blk hbx (fun e => by have := hDw _ (Obj.cells #[] 0) e; omega))
      have y0 : ∀ w', Exc (fun k _ => (Value.slice A n c).ownBlock = some k) W w' → w'.cell? ⟨g, of + i * 3, none⟩ = some (.slice flA flo.length flc) := fun w' h => ((hX w' h).to_ext hS.ext (fun k o e => by have := hDw _ o e; omega)).cell z0
      have y1 : ∀ w', Exc (fun k _ => (Value.slice A n c).ownBlock = some k) W w' → w'.cell? ⟨g, of + i * 3 + 1, none⟩ = some (.slice fhA fhi.length fhc) := fun w' h => ((hX w' h).to_ext hS.ext (fun k o e => by have := hDw _ o e; omega)).cell z1
      repeat (first | (apply wpR_one; (case ho => (simp only [List.getElem?_toArray, List.getElem?_cons_succ, List.getElem?_cons_zero]; try exact rfl)); (case hw => rfl); (case hl => rfl); (case hsp => rfl); (case he => rfl); (case hv => (intro w' hw'; (try (have hw2 := Ext.trans hEW hw')); (try (have hw3 := Exc.trans hEW hw')); (try (have hw4 := Exk.trans hEW hw')); (try (have hw5 := Mrk.trans hEW hw')); go_simp; exact rfl)); (case hw0 => (first | exact Below.refl _ _ | exact Exc.of_ext (Below.refl _ _) | exact Exk.of_ext (Below.refl _ _) | exact Mrk.of_ext (Below.refl _ _))); simp only [Act.put, List.setIfInBounds_toArray, List.set_cons_succ, List.set_cons_zero]) | (apply wpR_early; (case ho => (simp only [List.getElem?_toArray, List.getElem?_cons_succ, List.getElem?_cons_zero]; try exact rfl)); (case hw => rfl); (case hl => rfl); (case hsp => rfl); (case he => rfl); (case hv => (intro w' hw'; (try have hw2 := Ext.trans hEW hw'); go_simp; exact rfl)); simp only [Act.put, List.setIfInBounds_toArray, List.set_cons_succ, List.set_cons_zero]) | (apply wpR_pass; (case ho => (simp only [List.getElem?_toArray, List.getElem?_cons_succ, List.getElem?_cons_zero]; try exact rfl)); (case hw => rfl); (case hl => rfl); simp only [Act.put, List.setIfInBounds_toArray, List.set_cons_succ, List.set_cons_zero]))
      refine wpR_new (by ((simp only [List.getElem?_toArray, List.getElem?_cons_succ, List.getElem?_cons_zero]; try exact rfl))) _ rfl rfl rfl (fun V v => BuiltS.lasts hD _ _) (fun V V' h => by simp only [h 6 (by kernel_rfl), h 12 (by kernel_rfl)]) (fun w' hw' hK => ?_) (fun v hv => ?_)
      · have hXs := (hEW.trans hw').size
        unfold opAt
        go_simp
        exact upAt_value ⟨ext_alloc _ _, _, rfl, hXs, heap_alloc_new _ _⟩
      obtain ⟨h, rfl⟩ : ∃ h, v = .slice (some ⟨h, 0, none⟩) 2 2 := by
        obtain ⟨_, _, _, h, e, _⟩ := hv
        exact ⟨h, e⟩
      clear hv
      simp only [Act.put, List.setIfInBounds_toArray, List.set_cons_succ, List.set_cons_zero]
      refine wpR_late (by ((simp only [List.getElem?_toArray, List.getElem?_cons_succ, List.getElem?_cons_zero]; try exact rfl))) _ rfl rfl (fun V v w' w2 ⟨A, c, h1, h2⟩ he => ⟨A, c, h1, h2.more he⟩) (fun V V' h => rfl) (fun w' hw' hK hF => ?_) (fun v hv => ?_)
      · have hF2 : LsS w (Obj.cells #[.int .i64 kd, .slice aA a.length ac, .slice bA b.length bc, .slice rlA rlo.length rlc, .slice rhA rhi.length rhc, .bool rop, .slice slA slo.length slc, .slice shA shi.length shc, .bool sop, .slice (some ⟨g, of, none⟩) fs.length lc] 47) (.slice A n c) n xs w' := hF
        obtain ⟨h', e4, _, hbk⟩ := (hK 13 (by kernel_rfl)).2
        obtain rfl := slS_inj (show Value.slice (some ⟨h, 0, none⟩) 2 2 = _ from e4)
        have hbk' : w'.heap[h]? = some (Obj.cells #[.slice flA flo.length flc, .slice fhA fhi.length fhc] 22 (0, 0)) := hbk
        have hnews : ∀ j u, ([.slice flA flo.length flc, .slice fhA fhi.length fhc] : List Value)[j]? = some u → w'.cell? ((⟨h, 0, none⟩ : Addr).add j) = some u := fun j u hj => by
          rw [Addr.add_lit, cell_of_row _ _ _ _ _ _ hbk', Nat.zero_add]
          simpa using hj
        have hsz := hF2.ext.size
        refine opAt_list rfl #[] (fun Q hQ => ?_)
        refine wpList_append_own _ rfl _ _ 55 rfl (w.heap.size + 1) 22 i1 _ 1 24 Try.underlying55 hi1 hy0 hy1 hy2 rfl (by decide) _ _ _ rfl hF2.own ⟨h, 0, none⟩ 2 2 [.slice flA flo.length flc, .slice fhA fhi.length fhc] rfl rfl hnews (by simp [Value.oneCell']) (by simp [maxLen]; omega) (by omega) (by have := (Array.getElem?_eq_some_iff.1 hF2.box).1; omega) ?_
        intro v' w2 hown2 hgrow2 _
        obtain ⟨A', c', rfl⟩ := slice_of_own hown2
        have hxc : Exc (fun k _ => (Value.slice A n c).ownBlock = some k) w' w2 := Exc.of_grown hgrow2 (fun g o hg _ => hg)
        exact hQ _ _ ⟨hxc, A', c', rfl, hown2, hxc.blk hF2.box (fun e => by have := hDw _ (Obj.cells #[] 0) e; omega), hxc.to_ext hF2.ext (fun k o e => by have := hDw _ o e; omega)⟩
      obtain ⟨A5, c5, rfl⟩ : ∃ A c, v = .slice A (n + 2) c := by
        obtain ⟨_, _, A, c, e, _⟩ := hv
        exact ⟨A, c, e⟩
      clear hv
      simp only [Act.put, List.setIfInBounds_toArray, List.set_cons_succ, List.set_cons_zero]
      repeat (first | (apply wpR_one; (case ho => (simp only [List.getElem?_toArray, List.getElem?_cons_succ, List.getElem?_cons_zero]; try exact rfl)); (case hw => rfl); (case hl => rfl); (case hsp => rfl); (case he => rfl); (case hv => (intro w' hw'; (try (have hw2 := Ext.trans hEW hw')); (try (have hw3 := Exc.trans hEW hw')); (try (have hw4 := Exk.trans hEW hw')); (try (have hw5 := Mrk.trans hEW hw')); go_simp; exact rfl)); (case hw0 => (first | exact Below.refl _ _ | exact Exc.of_ext (Below.refl _ _) | exact Exk.of_ext (Below.refl _ _) | exact Mrk.of_ext (Below.refl _ _))); simp only [Act.put, List.setIfInBounds_toArray, List.set_cons_succ, List.set_cons_zero]) | (apply wpR_early; (case ho => (simp only [List.getElem?_toArray, List.getElem?_cons_succ, List.getElem?_cons_zero]; try exact rfl)); (case hw => rfl); (case hl => rfl); (case hsp => rfl); (case he => rfl); (case hv => (intro w' hw'; (try have hw2 := Ext.trans hEW hw'); go_simp; exact rfl)); simp only [Act.put, List.setIfInBounds_toArray, List.set_cons_succ, List.set_cons_zero]) | (apply wpR_pass; (case ho => (simp only [List.getElem?_toArray, List.getElem?_cons_succ, List.getElem?_cons_zero]; try exact rfl)); (case hw => rfl); (case hl => rfl); simp only [Act.put, List.setIfInBounds_toArray, List.set_cons_succ, List.set_cons_zero]))
      apply wpR_nil
      apply hN
      intro w5 hE' hK hF
      have hF5 : LsS w (Obj.cells #[.int .i64 kd, .slice aA a.length ac, .slice bA b.length bc, .slice rlA rlo.length rlc, .slice rhA rhi.length rhc, .bool rop, .slice slA slo.length slc, .slice shA shi.length shc, .bool sop, .slice (some ⟨g, of, none⟩) fs.length lc] 47) (.slice A5 (n + 2) c5) (n + 2) (xs ++ [.slice flA flo.length flc, .slice fhA fhi.length fhc]) w5 := by
        obtain ⟨A', c', e, h⟩ := hF
        injection e with e1 _ e2
        subst e1 e2
        exact h
      clear hK hN hF e2 y0 y1 hX hEW hE' hD hDw hF0 hW hS
      go_wp2
      go_roundw
      case rel => exact ⟨i + 1, n + 2, A5, c5, by omega, Lib.hid (by have := HN.out; omega), by go_num, rfl, by rw [HTK.out, ← List.append_assoc, HXS.out]; exact hF5⟩
      case measure => simp [intOf]; omega
    · obtain rfl : i = fs.length := by omega
      obtain rfl : n = 6 + 2 * fs.length := HN.out
      rw [List.take_length] at hS
      go_wp2
      obtain ⟨L, hL⟩ : ∃ L, [Value.slice aA a.length ac, .slice bA b.length bc, .slice rlA rlo.length rlc, .slice rhA rhi.length rhc, .slice slA slo.length slc, .slice shA shi.length shc] ++ fs.flatMap fv = L := ⟨_, rfl⟩
      rw [hL] at H8 hS
      have HL := Lib.hid hL
      obtain ⟨n, hn⟩ : ∃ n, 6 + 2 * fs.length = n := ⟨_, rfl⟩
      rw [hn] at hS ⊢
      have hn126 : n ≤ 126 := by omega
      have HNN := Lib.hid hn
      clear hL hn
      have HLL := Lib.hid (show L.length = n by have := hS.own.1; omega)
      obtain ⟨gh, ch, hAh, hgh, _⟩ := World.ownsRow.form hS.own (by have := HNN.out; omega)
      injection hAh with hAh _ hch
      subst hAh
      clear hch
      have HS := Lib.hid hS
      have HE := Lib.hid hS.ext
      have HR0 := Lib.hid (show ∀ v ∈ L, Sp8 B C wr v from fun v hv => (H8.out v hv).ext hS.ext)
      clear hS H8
      rename World => w5
      go_loopw [4] (fun ii wr => ∃ i : Nat, i ≤ n ∧ ii = .int .i64 i ∧ Hid (∀ v ∈ L, Sp8 B C wr v) ∧ Exc (DS B C) w5 wr) (fun ii _ => n - (intOf ii).toNat)
      case atStart => exact ⟨0, Nat.zero_le _, rfl, HR0, exc_refl _ _⟩
      case round =>
        clear HR0
        obtain ⟨i, hi, rfl, HR, hx⟩ := hrel
        by_cases hlt : i < n
        · obtain ⟨v, hv⟩ : ∃ v, L[i]? = some v := ⟨_, List.getElem?_eq_getElem (by rw [HLL.out]; exact hlt)⟩
          have hmem := List.mem_of_getElem? hv
          obtain ⟨g, N, full, rfl, hg1, hg2, hfl, hN, hbk⟩ := HR.out v hmem
          have HV := Lib.hid hv
          have hic : i < c := by
            have := (own_le HS.out.own).1
            omega
          clear hv hbk hfl full
          go_wp2
          go_loopw [5] (fun kk wr => ∃ k : Nat, k ≤ N ∧ kk = .int .i64 k ∧ Hid (∀ v ∈ L, Sp8 B C wr v) ∧ Exc (DS B C) w5 wr) (fun kk _ => N - (intOf kk).toNat)
          case atStart => exact ⟨0, Nat.zero_le _, rfl, HR, hx⟩
          case round =>
            clear HR hx
            obtain ⟨k, hk, rfl, HR, hx⟩ := hrel
            have hrow := own_exc HS.out.own hx (fun q cs h1 h2 => by have := h2.2.1; omega)
            have hc : wr.cell? ⟨gh, i, none⟩ = some (.slice (some ⟨g, 0, none⟩) N (N + 64)) := by
              rw [World.ownsRow.cellAt hrow i (by omega)]
              exact HV.out
            by_cases hltk : k < N
            · obtain ⟨g', N', full, he, _, _, hfl, _, hbk⟩ := HR.out _ hmem
              injection he with e1 e2 _
              injection e1 with e1
              injection e1 with e1
              subst e1 e2
              have hck := hbk.cell (i := k) (by omega)
              have hfz := hbk.frozen k
              have hgw : g < w.heap.size := by omega
              have hE5 := HE.out
              have hgl5 : w.heap.size + 1 ≤ gh := hgh
              have hci : i < n := hlt
              have w1 : IntKind.i64.wrap ((k : Int) * 3) = (k : Int) * 3 := IntWalk.i64_in _ (by omega)
              have w2 : IntKind.i64.wrap ((i : Int) + (k : Int) * 3) = (i : Int) + (k : Int) * 3 := IntWalk.i64_in _ (by omega)
              have w3 : IntKind.i64.wrap ((i : Int) + (k : Int) * 3 + 1) = (i : Int) + (k : Int) * 3 + 1 := IntWalk.i64_in _ (by omega)
              have i0 : ¬ (i : Int) < 0 := by omega
              have k0 : ¬ (k : Int) < 0 := by omega
              have i9 : (i : Int) < (n : Int) := by omega
              have k9 : (k : Int) < (N : Int) := by omega
              go_wp2
              refine wp_region_mild 20 (fun _ => none) (by kernel_rfl) (by kernel_rfl) (fun W K hW hN => ?_)
              have q1 : ∀ w', Ext W w' → _ := fun w' h => (hW.trans h).cell hc
              have q2 : ∀ w', Ext W w' → _ := fun w' h => (hW.trans h).cell hck
              simp only [List.take_succ_cons, List.take_zero]
              repeat (apply wpM_one; (case hg => rfl); (case hsp => rfl); (case hv => (intro w' hw'; go_simp; exact rfl)); simp only [Act.put, List.setIfInBounds_toArray, List.set_cons_succ, List.set_cons_zero])
              apply wpM_nil
              apply hN
              intro w6 hE6 hK
              have hE76 := hW.trans hE6
              have hbk6 := Blk.ext hbk hE76
              have hck6 := hE76.cell hck
              have hfz6 := hbk6.frozen k
              have HR6 := Lib.hid (show ∀ v ∈ L, Sp8 B C w6 v from fun v hv => (HR.out v hv).ext hE76)
              have HX6 := Lib.hid ((hx.trans (Exc.of_ext hE76) : Exc (DS B C) w5 w6))
              have HB6 := Lib.hid hbk6
              simp only [List.drop_succ_cons, List.drop_zero]
              clear hK hN q1 q2 w1 w2 w3 hc hck hfz hbk hrow HR hx hW hE6 hE76 hbk6
              go_wp2
              go_roundw
              case rel => exact ⟨k + 1, by omega, by go_num, Lib.hid (fun v hv => Sp8.storeX (xor8_byte _ _) (HR6.out v hv)), HX6.out.trans (setCell_ds HB6.out hg1 hg2)⟩
              case measure => simp [intOf]; omega
            · obtain rfl : k = N := by omega
              have kN : ¬ (k : Int) < (k : Int) := by omega
              go_wp2
              go_roundw
              case rel => exact ⟨i + 1, by omega, by go_num, HR, hx⟩
              case measure => simp [intOf]; omega
        · obtain rfl : i = n := by omega
          have hE5 := HE.out
          have hxw : Exc (DS B C) w wr := (Exc.of_ext hE5).trans hx
          have HF := Lib.hid (show SpoilV (.agg #[.int .i64 kd, .slice aA a.length ac, .slice bA b.length bc, .slice rlA rlo.length rlc, .slice rhA rhi.length rhc, .bool rop, .slice slA slo.length slc, .slice shA shi.length shc, .bool sop, .slice lA fs.length lc]) wr from by
            have hin : ∀ v ∈ [Value.slice aA a.length ac, .slice bA b.length bc, .slice rlA rlo.length rlc, .slice rhA rhi.length rhc, .slice slA slo.length slc, .slice shA shi.length shc] ++ fs.flatMap fv, Sp8 B C wr v := by rw [HL.out]; exact HR.out
            obtain ⟨a', ea, za, sa⟩ := (hin (.slice aA a.length ac) (List.mem_append_left _ (by simp))).sl
            obtain ⟨b', eb, zb, sb⟩ := (hin (.slice bA b.length bc) (List.mem_append_left _ (by simp))).sl
            obtain ⟨rl', erl, zrl, srl⟩ := (hin (.slice rlA rlo.length rlc) (List.mem_append_left _ (by simp))).sl
            obtain ⟨rh', erh, zrh, srh⟩ := (hin (.slice rhA rhi.length rhc) (List.mem_append_left _ (by simp))).sl
            obtain ⟨sl', esl, zsl, ssl⟩ := (hin (.slice slA slo.length slc) (List.mem_append_left _ (by simp))).sl
            obtain ⟨sh', esh, zsh, ssh⟩ := (hin (.slice shA shi.length shc) (List.mem_append_left _ (by simp))).sl
            obtain ⟨gs, hg1, hg2, hg3⟩ := re_list (P := fun f lo hi => (smallL lo ∧ smallL hi) ∧ Sl wr f.lA f.lc lo ∧ Sl wr f.hA f.hc hi) fs (fun f hf => by
              obtain ⟨x, ex, zx, sx⟩ := (hin (.slice f.lA f.lo.length f.lc) (List.mem_append_right _ (List.mem_flatMap.2 ⟨f, hf, by simp⟩))).sl
              obtain ⟨y, ey, zy, sy⟩ := (hin (.slice f.hA f.hi.length f.hc) (List.mem_append_right _ (List.mem_flatMap.2 ⟨f, hf, by simp⟩))).sl
              exact ⟨x, y, ex, ey, ⟨zx, zy⟩, sx, sy⟩)
            refine ⟨⟨kd, aA, ac, a', bA, bc, b', ⟨rlA, rlc, rl', rhA, rhc, rh', rop⟩, ⟨slA, slc, sl', shA, shc, sh', sop⟩, lA, lc, gs⟩, ?_, ?_⟩
            · dsimp only [Opn.v]; rw [ea, eb, erl, erh, esl, esh, hg2]
            · have hbl := hxw.blk HBL.out (fun hd => by
                obtain ⟨_, _, cs, fr, e⟩ := hd
                injection e with _ e
                exact absurd e (by decide))
              have hls : ∀ g ∈ gs, (smallL g.lo ∧ smallL g.hi) ∧ Sl wr g.lA g.lc g.lo ∧ Sl wr g.hA g.hc g.hi := fun g hg => by
                obtain ⟨f, _, e1, e2, e3, e4, h⟩ := hg3 g hg
                rw [e1, e2, e3, e4]
                exact h
              have hfl : (fs ++ tl).flatMap c3 = (gs ++ tl).flatMap c3 := by rw [List.flatMap_append, List.flatMap_append, hg1]
              rw [hfl] at hbl
              refine ⟨sa, sb, srl, srh, ssl, ssh, ⟨fun hn0 => ⟨gi, 0, HLA.out, fun i f hf => ?_⟩, fun f hf => (hls f hf).2⟩, by show gs.length ≤ 60; omega, ?_, ?_, za, zb, zrl, zrh, zsl, zsh, fun f hf => (hls f hf).1⟩
              · obtain ⟨z0, z1, z2⟩ := cells_at hbl (i := i) (f := f) (by rw [List.getElem?_append_left (List.getElem?_eq_some_iff.1 hf).1]; exact hf)
                rw [Nat.zero_add]
                exact ⟨z0, z1, z2⟩
              · show gs.length ≤ lc; have := HLC.out; omega
              · show lc ≤ _; have := HLC.out; omega)
          have HXW := Lib.hid hxw
          clear hxw hE5 hx HR
          go_wp2
          exact bodyPost_end (by simp [results, Try.results38]) rfl ⟨rfl, HF.out, HXW.out⟩
end Go.Proofs.Ytijlaknfagpglaa
