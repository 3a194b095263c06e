/- The contract of works. No condition. -/
import Derived.Test.YtjjbckdiojleeaaNletw
import Derived.Test.YtjjbckdiojleeaaNsplit
import Derived.Test.YtjjbckdiojleeaaNsearch
import Derived.Test.YtjjbckdiojleeaaEqpg
import Derived.Test.YtjjbckdiojleeaaMrk
import Derived.Lib.SlBytesConst
namespace Go.Proofs.Ytjjbckdiojleeaa
set_option linter.unusedVariables false
open Go.RowKit Go.Proofs
def wP : Pg := letPg 1 0 [97, 99, 101]
def wI : Pg := letPg 2 1 [45, 103, 112]
def wF : Pg := letPg 1 0 [97, 98, 99, 100, 101, 102, 103, 104]
def wL : Pg := letPg 1 0 [97, 98, 99, 100]
def wR : Pg := letPg 1 0 [101, 102, 103, 104]
theorem wk1 : srchI wP.items [100] = 2 := by decide
theorem wk2 : srchB wP.items [100] = false := by decide
theorem wk3 : routI wI.items [103] = 1 := by decide
theorem wk4 : (remB wP 1).2 = true := by decide
theorem wk5 : (remB wP 1).1.items.length = 2 := by decide
theorem wk6 : splitB wF = some (wL, wR, [101]) := by decide
theorem wk7 : (joinB wL wR [101]) = (wF, true) := by decide
theorem wk8 : eqPg wL wL = true := by decide
theorem wk9 : eqPg wR wR = true := by decide
theorem wk10 : eqPg wF wF = true := by decide
theorem wsm {p : Pg} (h1 : p.items.length ≤ 64) (h2 : (p.items.all fun x => decide (x.key.length ≤ 64) && decide (x.val.length ≤ 64)) = true) (h3 : p.data.length ≤ 64) : PSmall p :=
  ⟨by omega, fun x hx => by
    have := List.all_eq_true.1 h2 x hx
    simp only [Bool.and_eq_true, decide_eq_true_eq] at this
    exact ⟨by omega, by omega⟩, by omega⟩
def boolT (v : Value) (_ : World) : Prop := v = .bool true
theorem boolT.lasts {R : World → World → Prop} (v : Value) : Lasts R (boolT v) := fun _ _ h _ => h
set_option maxRecDepth 100000 in
set_option maxHeartbeats 4000000 in
theorem works_any {w : World} :
    Calls Try.prog 21 #[] w fun e w' => e = .returned (.bool true) ∧ Ext w w' := by
  have kc : ∀ (w : World) (C : Array Value) (n c g : Nat), g = w.heap.size → (convert 24 24 (.slice (some ⟨g, 0, none⟩) n c)).run Try.prog (w.alloc (.cells C 5 (0, 0))) = .ok (.slice (some ⟨g, 0, none⟩) n c) (w.alloc (.cells C 5 (C.size, C.size + 1))) := by
    intro w C n c g hg
    subst hg
    exact Lib.run_convert_bytes_const (P := Try.prog) w 24 5 C n c Try.underlying24 Try.underlying5
  go_enter Try.func21, Try.ntmps21
  go_wp2_with fail
  refine (lettered_any (by decide)).mono ?_
  rintro e w1 ⟨v, rfl, hv, hE⟩
  have hv1 : PgV w1 v wP := hv
  clear hv
  generalize hp : wP = p at hv1
  obtain ⟨iA, ic, dA, dc, rfl, hi, hd⟩ := hv1.ex
  have HP := Lib.hid hp
  clear hi hd hp
  have hb1 := heap_alloc2_old w1 (.cells #[.int .i64 p.kind, .int .i64 p.level, .slice iA p.items.length ic, .slice dA p.data.length dc, .int .i64 p.next] 26) (.cells #[.int .u8 100] 5 (1, 2))
  have hl1 := Sl.litm [100] (1, 2) (heap_alloc2_new w1 (.cells #[.int .i64 p.kind, .int .i64 p.level, .slice iA p.items.length ic, .slice dA p.data.length dc, .int .i64 p.next] 26) (.cells #[.int .u8 100] 5 (1, 2))) (by decide)
  have hE1 := hE.trans ((ext_alloc w1 (.cells #[.int .i64 p.kind, .int .i64 p.level, .slice iA p.items.length ic, .slice dA p.data.length dc, .int .i64 p.next] 26)).trans (ext_alloc _ (.cells #[.int .u8 100] 5 (1, 2))))
  have hv2 := hv1.ext ((ext_alloc w1 (.cells #[.int .i64 p.kind, .int .i64 p.level, .slice iA p.items.length ic, .slice dA p.data.length dc, .int .i64 p.next] 26)).trans (ext_alloc _ (.cells #[.int .u8 100] 5 (1, 2))))
  clear hv1 hE
  go_wp2_with fail
  refine (nsearch_any (k := [100]) hv2 hl1 rfl).mono ?_
  rintro e w2 ⟨rfl, hE2⟩
  rw [← HP.out, wk1, wk2]
  rw [HP.out]
  have hE := hE1.trans hE2
  have hb := hE2.blk hb1
  have hv := hv2.ext hE2
  generalize hg : w1.heap.size = b1 at hb
  have HG := Lib.hid hg
  clear hg hE1 hE2 hb1 hl1 hv2
  go_wp2_with fail
  refine (lettered_any (by decide)).mono ?_
  rintro e w3 ⟨v, rfl, hvI, hE3⟩
  have hq : PgV w3 v wI := hvI
  clear hvI
  replace hE := hE.trans hE3
  replace hb := hE3.blk hb
  replace hv := hv.ext hE3
  clear hE3
  generalize hp : wI = q at hq
  obtain ⟨jA, jc, cA, cc, rfl, hi, hd⟩ := hq.ex
  have HQ := Lib.hid hp
  clear hi hd hp
  have hl1 := Sl.litm [103] (1, 2) (heap_alloc_new w3 (.cells #[.int .u8 103] 5 (1, 2))) (by decide)
  have hq2 := hq.ext (ext_alloc w3 (.cells #[.int .u8 103] 5 (1, 2)))
  have hb2 := (ext_alloc w3 (.cells #[.int .u8 103] 5 (1, 2))).blk hb
  have hv2 := hv.ext (ext_alloc w3 (.cells #[.int .u8 103] 5 (1, 2)))
  have hE2 := hE.trans (ext_alloc w3 (.cells #[.int .u8 103] 5 (1, 2)))
  clear hb hv hE hq
  go_wp2_with fail
  refine (nroute_any (k := [103]) hq2 hl1 rfl).mono ?_
  rintro e w4 ⟨rfl, hE4⟩
  rw [← HQ.out, wk3]
  rw [HQ.out]
  replace hE2 := hE2.trans hE4
  replace hb2 := hE4.blk hb2
  replace hv2 := hv2.ext hE4
  have p0 := cell_of_row _ _ 0 _ _ _ hb2
  have p1 := cell_of_row _ _ 1 _ _ _ hb2
  have p2 := cell_of_row _ _ 2 _ _ _ hb2
  have p3 := cell_of_row _ _ 3 _ _ _ hb2
  have p4 := cell_of_row _ _ 4 _ _ _ hb2
  simp at p0 p1 p2 p3 p4
  clear hE4 hq2 hl1 HQ
  go_wp2_with fail
  refine (nremove_any hv2).mono ?_
  rintro e w5 ⟨v, rfl, hO, hE5⟩
  rw [← HP.out] at hO ⊢
  rw [wk4]
  rw [HP.out]
  replace hE2 := hE2.trans hE5
  obtain ⟨iA3, dA3, ic3, dc3, ps3, rfl, _⟩ := hO.ex
  clear hO
  generalize hr : (remB wP 1).1 = r
  have HR := Lib.hid hr
  clear hE5 hb2 hv2 p0 p1 p2 p3 p4 hr HG
  go_wp2_with fail
  refine (lettered_any (by decide)).mono ?_
  rintro e w6 ⟨v, rfl, hvI, hE6⟩
  have hq : PgV w6 v wF := hvI
  clear hvI
  have hbr := hE6.blk (heap_alloc_new w5 (.cells #[.int .i64 r.kind, .int .i64 r.level, .slice iA3 r.items.length dA3, .slice ic3 r.data.length dc3, .int .i64 r.next] 26))
  replace hE2 := hE2.trans ((ext_alloc w5 (.cells #[.int .i64 r.kind, .int .i64 r.level, .slice iA3 r.items.length dA3, .slice ic3 r.data.length dc3, .int .i64 r.next] 26)).trans hE6)
  generalize hg : w5.heap.size = br at hbr
  have HG := Lib.hid hg
  clear hE6 hg
  have hsF := hq.small
  generalize hp : wF = f at hq hsF
  obtain ⟨fA, fc, gA, gc, rfl, hi, hd⟩ := hq.ex
  have HF := Lib.hid hp
  clear hi hd hp
  go_wp2_with fail
  refine (nsplit_any hq).mono ?_
  rintro e w7 ⟨v1, v2, sA, sc, rfl, hO1, hO2, hO3, hE7⟩
  rw [← HF.out, wk6] at hO1 hO2 hO3 ⊢
  have hL : PgV w7 v1 wL := hO1.pgv (wsm (by decide) (by decide) (by decide))
  have hR : PgV w7 v2 wR := hO2.pgv (wsm (by decide) (by decide) (by decide))
  have hS : Sl w7 sA sc [101] := hO3.sl (by decide)
  rw [HF.out, show (part3 (some (wL, wR, [101]))).length = 1 from rfl]
  replace hbr := hE7.blk hbr
  replace hE2 := hE2.trans hE7
  clear hO1 hO2 hO3 hE7 hq
  generalize hp1 : wL = l at hL
  generalize hp2 : wR = r2 at hR
  obtain ⟨lA, lc, lD, ld, rfl, hi, hd⟩ := hL.ex
  obtain ⟨rA, rc, rD, rd, rfl, hi2, hd2⟩ := hR.ex
  have HL := Lib.hid hp1
  have HR2 := Lib.hid hp2
  clear hi hd hi2 hd2 hp1 hp2
  go_wp2_with fail
  have hxx := (ext_alloc w7 (.cells #[.int .i64 l.kind, .int .i64 l.level, .slice lA l.items.length lc, .slice lD l.data.length ld, .int .i64 l.next] 26)).trans (ext_alloc _ (.cells #[.int .i64 r2.kind, .int .i64 r2.level, .slice rA r2.items.length rc, .slice rD r2.data.length rd, .int .i64 r2.next] 26))
  obtain ⟨b6, h6⟩ : ∃ b, w7.heap.size = b := ⟨_, rfl⟩
  obtain ⟨b7, h7⟩ : ∃ b, w7.heap.size + 1 = b := ⟨_, rfl⟩
  refine wp_cut (fun W => Ext w W ∧ W.heap[b6]? = some (.cells #[.int .i64 l.kind, .int .i64 l.level, .slice lA l.items.length lc, .slice lD l.data.length ld, .int .i64 l.next] 26) ∧ W.heap[b7]? = some (.cells #[.int .i64 r2.kind, .int .i64 r2.level, .slice rA r2.items.length rc, .slice rD r2.data.length rd, .int .i64 r2.next] 26) ∧ W.heap[br]? = some (.cells #[.int .i64 r.kind, .int .i64 r.level, .slice iA3 r.items.length dA3, .slice ic3 r.data.length dc3, .int .i64 r.next] 26) ∧ PgV W (.agg #[.int .i64 l.kind, .int .i64 l.level, .slice lA l.items.length lc, .slice lD l.data.length ld, .int .i64 l.next]) l ∧ PgV W (.agg #[.int .i64 r2.kind, .int .i64 r2.level, .slice rA r2.items.length rc, .slice rD r2.data.length rd, .int .i64 r2.next]) r2 ∧ Sl W sA sc [101])
    ⟨hE2.trans hxx, by rw [← h6]; exact heap_alloc2_old _ _ _, by rw [← h7]; exact heap_alloc2_new _ _ _, hxx.blk hbr, hL.ext hxx, hR.ext hxx, hS.ext hxx⟩ ?_
  rw [h7, h6]
  clear hxx hE2 hbr hL hR hS h6 h7
  rintro w8 ⟨hE, hb6, hb7, hbr, hL, hR, hS⟩
  have HB6 := Lib.hid hb6
  have HB7 := Lib.hid hb7
  clear hb6 hb7
  have x0 : ∀ w', Mrk w8.heap.size w8 w' → w'.cell? ⟨b6, 0, none⟩ = some (.int .i64 l.kind) := fun w' h => cell_of_row _ _ _ _ _ _ (h.blk HB6.out)
  have x1 : ∀ w', Mrk w8.heap.size w8 w' → w'.cell? ⟨b6, 1, none⟩ = some (.int .i64 l.level) := fun w' h => cell_of_row _ _ _ _ _ _ (h.blk HB6.out)
  have x2 : ∀ w', Mrk w8.heap.size w8 w' → w'.cell? ⟨b6, 2, none⟩ = some (.slice lA l.items.length lc) := fun w' h => cell_of_row _ _ _ _ _ _ (h.blk HB6.out)
  have x3 : ∀ w', Mrk w8.heap.size w8 w' → w'.cell? ⟨b6, 3, none⟩ = some (.slice lD l.data.length ld) := fun w' h => cell_of_row _ _ _ _ _ _ (h.blk HB6.out)
  have x4 : ∀ w', Mrk w8.heap.size w8 w' → w'.cell? ⟨b6, 4, none⟩ = some (.int .i64 l.next) := fun w' h => cell_of_row _ _ _ _ _ _ (h.blk HB6.out)
  have y0 : ∀ w', Mrk w8.heap.size w8 w' → w'.cell? ⟨b7, 0, none⟩ = some (.int .i64 r2.kind) := fun w' h => cell_of_row _ _ _ _ _ _ (h.blk HB7.out)
  have y1 : ∀ w', Mrk w8.heap.size w8 w' → w'.cell? ⟨b7, 1, none⟩ = some (.int .i64 r2.level) := fun w' h => cell_of_row _ _ _ _ _ _ (h.blk HB7.out)
  have y2 : ∀ w', Mrk w8.heap.size w8 w' → w'.cell? ⟨b7, 2, none⟩ = some (.slice rA r2.items.length rc) := fun w' h => cell_of_row _ _ _ _ _ _ (h.blk HB7.out)
  have y3 : ∀ w', Mrk w8.heap.size w8 w' → w'.cell? ⟨b7, 3, none⟩ = some (.slice rD r2.data.length rd) := fun w' h => cell_of_row _ _ _ _ _ _ (h.blk HB7.out)
  have y4 : ∀ w', Mrk w8.heap.size w8 w' → w'.cell? ⟨b7, 4, none⟩ = some (.int .i64 r2.next) := fun w' h => cell_of_row _ _ _ _ _ _ (h.blk HB7.out)
  refine wp_region_rg (Mrk w8.heap.size) (rel_mrk _) (fun _ => True) [0, 1, 2, 3, 4, 5, 6, 7, 8, 9, 10, 11, 12, 13, 14, 15, 16, 17, 18, 19, 20, 21, 22, 23, 24] (fun i => match i with
    | 8 => some fun _ v w' => PgV w' v wL
    | 9 => some fun _ => boolT
    | 14 => some fun _ v w' => PgV w' v wR
    | 15 => some fun _ => boolT
    | 20 => some fun _ => LitM w8.heap.size #[.int .u8 101]
    | 22 => some fun _ => boolT
    | _ => none) (fun i => match i with
    | 21 => some fun V v _ => v = V 20
    | _ => none) (fun _ => false) (by kernel_rfl) (by kernel_rfl) (fun _ _ _ _ => trivial) trivial (fun W N hW _ hN => ?_)
  have hEW : Mrk w8.heap.size w8 W := Mrk.of_ext hW
  repeat (first | (apply wpR_one; (case ho => (simp only [List.getElem?_toArray, List.getElem?_cons_succ, List.getElem?_cons_zero]; try exact rfl)); (case hw => rfl); (case hl => rfl); (case hsp => rfl); (case he => rfl); (case hv => (intro w' hw'; (try (have hw2 := Ext.trans hEW hw')); (try (have hw3 := Exc.trans hEW hw')); (try (have hw4 := Exk.trans hEW hw')); (try (have hw5 := Mrk.trans hEW hw')); go_simp; exact rfl)); (case hw0 => (first | exact Below.refl _ _ | exact Exc.of_ext (Below.refl _ _) | exact Exk.of_ext (Below.refl _ _) | exact Mrk.of_ext (Below.refl _ _))); simp only [Act.put, List.setIfInBounds_toArray, List.set_cons_succ, List.set_cons_zero]) | (apply wpR_early; (case ho => (simp only [List.getElem?_toArray, List.getElem?_cons_succ, List.getElem?_cons_zero]; try exact rfl)); (case hw => rfl); (case hl => rfl); (case hsp => rfl); (case he => rfl); (case hv => (intro w' hw'; (try have hw2 := Ext.trans hEW hw'); go_simp; exact rfl)); simp only [Act.put, List.setIfInBounds_toArray, List.set_cons_succ, List.set_cons_zero]) | (apply wpR_pass; (case ho => (simp only [List.getElem?_toArray, List.getElem?_cons_succ, List.getElem?_cons_zero]; try exact rfl)); (case hw => rfl); (case hl => rfl); simp only [Act.put, List.setIfInBounds_toArray, List.set_cons_succ, List.set_cons_zero]))
  refine wpR_new (by ((simp only [List.getElem?_toArray, List.getElem?_cons_succ, List.getElem?_cons_zero]; try exact rfl))) _ rfl rfl rfl (fun V v w' w2 h hm => h.mrk hm) (fun V V' h => rfl) (fun w' hw' hK => ?_) (fun v hv => ?_)
  · clear hK
    unfold opAt; go_simp; refine upAt_enter ?_
    refine (lettered_any (by decide)).mono ?_
    rintro e w2 ⟨v, rfl, hv, hE2⟩
    have hv' : PgV w2 v wL := hv
    exact ⟨_, rfl, hE2, hv'⟩
  clear hv
  simp only [Act.put, List.setIfInBounds_toArray, List.set_cons_succ, List.set_cons_zero]
  repeat (first | (apply wpR_one; (case ho => (simp only [List.getElem?_toArray, List.getElem?_cons_succ, List.getElem?_cons_zero]; try exact rfl)); (case hw => rfl); (case hl => rfl); (case hsp => rfl); (case he => rfl); (case hv => (intro w' hw'; (try (have hw2 := Ext.trans hEW hw')); (try (have hw3 := Exc.trans hEW hw')); (try (have hw4 := Exk.trans hEW hw')); (try (have hw5 := Mrk.trans hEW hw')); go_simp; exact rfl)); (case hw0 => (first | exact Below.refl _ _ | exact Exc.of_ext (Below.refl _ _) | exact Exk.of_ext (Below.refl _ _) | exact Mrk.of_ext (Below.refl _ _))); simp only [Act.put, List.setIfInBounds_toArray, List.set_cons_succ, List.set_cons_zero]) | (apply wpR_early; (case ho => (simp only [List.getElem?_toArray, List.getElem?_cons_succ, List.getElem?_cons_zero]; try exact rfl)); (case hw => rfl); (case hl => rfl); (case hsp => rfl); (case he => rfl); (case hv => (intro w' hw'; (try have hw2 := Ext.trans hEW hw'); go_simp; exact rfl)); simp only [Act.put, List.setIfInBounds_toArray, List.set_cons_succ, List.set_cons_zero]) | (apply wpR_pass; (case ho => (simp only [List.getElem?_toArray, List.getElem?_cons_succ, List.getElem?_cons_zero]; try exact rfl)); (case hw => rfl); (case hl => rfl); simp only [Act.put, List.setIfInBounds_toArray, List.set_cons_succ, List.set_cons_zero]))
  refine wpR_new (by ((simp only [List.getElem?_toArray, List.getElem?_cons_succ, List.getElem?_cons_zero]; try exact rfl))) _ rfl rfl rfl (fun V v => boolT.lasts v) (fun V V' h => rfl) (fun w' hw' hK => ?_) (fun v hv => ?_)
  · have HK := Lib.hid (hK 8 (by kernel_rfl)).2
    clear hK
    unfold opAt; go_simp; refine upAt_enter ?_
    have hv : PgV w' _ wL := HK.out
    refine (eqPage_any (hL.mrk (hEW.trans hw')) hv).mono ?_
    rintro e w2 ⟨rfl, hE2⟩
    exact ⟨_, rfl, hE2, by rw [← HL.out, wk8]; exact rfl⟩
  obtain rfl : v = .bool true := hv.choose_spec.2.2
  simp only [Act.put, List.setIfInBounds_toArray, List.set_cons_succ, List.set_cons_zero]
  repeat (first | (apply wpR_one; (case ho => (simp only [List.getElem?_toArray, List.getElem?_cons_succ, List.getElem?_cons_zero]; try exact rfl)); (case hw => rfl); (case hl => rfl); (case hsp => rfl); (case he => rfl); (case hv => (intro w' hw'; (try (have hw2 := Ext.trans hEW hw')); (try (have hw3 := Exc.trans hEW hw')); (try (have hw4 := Exk.trans hEW hw')); (try (have hw5 := Mrk.trans hEW hw')); go_simp; exact rfl)); (case hw0 => (first | exact Below.refl _ _ | exact Exc.of_ext (Below.refl _ _) | exact Exk.of_ext (Below.refl _ _) | exact Mrk.of_ext (Below.refl _ _))); simp only [Act.put, List.setIfInBounds_toArray, List.set_cons_succ, List.set_cons_zero]) | (apply wpR_early; (case ho => (simp only [List.getElem?_toArray, List.getElem?_cons_succ, List.getElem?_cons_zero]; try exact rfl)); (case hw => rfl); (case hl => rfl); (case hsp => rfl); (case he => rfl); (case hv => (intro w' hw'; (try have hw2 := Ext.trans hEW hw'); go_simp; exact rfl)); simp only [Act.put, List.setIfInBounds_toArray, List.set_cons_succ, List.set_cons_zero]) | (apply wpR_pass; (case ho => (simp only [List.getElem?_toArray, List.getElem?_cons_succ, List.getElem?_cons_zero]; try exact rfl)); (case hw => rfl); (case hl => rfl); simp only [Act.put, List.setIfInBounds_toArray, List.set_cons_succ, List.set_cons_zero]))
  refine wpR_new (by ((simp only [List.getElem?_toArray, List.getElem?_cons_succ, List.getElem?_cons_zero]; try exact rfl))) _ rfl rfl rfl (fun V v w' w2 h hm => h.mrk hm) (fun V V' h => rfl) (fun w' hw' hK => ?_) (fun v hv => ?_)
  · clear hK
    unfold opAt; go_simp; refine upAt_enter ?_
    refine (lettered_any (by decide)).mono ?_
    rintro e w2 ⟨v, rfl, hv, hE2⟩
    have hv' : PgV w2 v wR := hv
    exact ⟨_, rfl, hE2, hv'⟩
  clear hv
  simp only [Act.put, List.setIfInBounds_toArray, List.set_cons_succ, List.set_cons_zero]
  repeat (first | (apply wpR_one; (case ho => (simp only [List.getElem?_toArray, List.getElem?_cons_succ, List.getElem?_cons_zero]; try exact rfl)); (case hw => rfl); (case hl => rfl); (case hsp => rfl); (case he => rfl); (case hv => (intro w' hw'; (try (have hw2 := Ext.trans hEW hw')); (try (have hw3 := Exc.trans hEW hw')); (try (have hw4 := Exk.trans hEW hw')); (try (have hw5 := Mrk.trans hEW hw')); go_simp; exact rfl)); (case hw0 => (first | exact Below.refl _ _ | exact Exc.of_ext (Below.refl _ _) | exact Exk.of_ext (Below.refl _ _) | exact Mrk.of_ext (Below.refl _ _))); simp only [Act.put, List.setIfInBounds_toArray, List.set_cons_succ, List.set_cons_zero]) | (apply wpR_early; (case ho => (simp only [List.getElem?_toArray, List.getElem?_cons_succ, List.getElem?_cons_zero]; try exact rfl)); (case hw => rfl); (case hl => rfl); (case hsp => rfl); (case he => rfl); (case hv => (intro w' hw'; (try have hw2 := Ext.trans hEW hw'); go_simp; exact rfl)); simp only [Act.put, List.setIfInBounds_toArray, List.set_cons_succ, List.set_cons_zero]) | (apply wpR_pass; (case ho => (simp only [List.getElem?_toArray, List.getElem?_cons_succ, List.getElem?_cons_zero]; try exact rfl)); (case hw => rfl); (case hl => rfl); simp only [Act.put, List.setIfInBounds_toArray, List.set_cons_succ, List.set_cons_zero]))
  refine wpR_new (by ((simp only [List.getElem?_toArray, List.getElem?_cons_succ, List.getElem?_cons_zero]; try exact rfl))) _ rfl rfl rfl (fun V v => boolT.lasts v) (fun V V' h => rfl) (fun w' hw' hK => ?_) (fun v hv => ?_)
  · have HK := Lib.hid (hK 14 (by kernel_rfl)).2
    clear hK
    unfold opAt; go_simp; refine upAt_enter ?_
    have hv : PgV w' _ wR := HK.out
    refine (eqPage_any (hR.mrk (hEW.trans hw')) hv).mono ?_
    rintro e w2 ⟨rfl, hE2⟩
    exact ⟨_, rfl, hE2, by rw [← HR2.out, wk9]; exact rfl⟩
  obtain rfl : v = .bool true := hv.choose_spec.2.2
  simp only [Act.put, List.setIfInBounds_toArray, List.set_cons_succ, List.set_cons_zero]
  repeat (first | (apply wpR_one; (case ho => (simp only [List.getElem?_toArray, List.getElem?_cons_succ, List.getElem?_cons_zero]; try exact rfl)); (case hw => rfl); (case hl => rfl); (case hsp => rfl); (case he => rfl); (case hv => (intro w' hw'; (try (have hw2 := Ext.trans hEW hw')); (try (have hw3 := Exc.trans hEW hw')); (try (have hw4 := Exk.trans hEW hw')); (try (have hw5 := Mrk.trans hEW hw')); go_simp; exact rfl)); (case hw0 => (first | exact Below.refl _ _ | exact Exc.of_ext (Below.refl _ _) | exact Exk.of_ext (Below.refl _ _) | exact Mrk.of_ext (Below.refl _ _))); simp only [Act.put, List.setIfInBounds_toArray, List.set_cons_succ, List.set_cons_zero]) | (apply wpR_early; (case ho => (simp only [List.getElem?_toArray, List.getElem?_cons_succ, List.getElem?_cons_zero]; try exact rfl)); (case hw => rfl); (case hl => rfl); (case hsp => rfl); (case he => rfl); (case hv => (intro w' hw'; (try have hw2 := Ext.trans hEW hw'); go_simp; exact rfl)); simp only [Act.put, List.setIfInBounds_toArray, List.set_cons_succ, List.set_cons_zero]) | (apply wpR_pass; (case ho => (simp only [List.getElem?_toArray, List.getElem?_cons_succ, List.getElem?_cons_zero]; try exact rfl)); (case hw => rfl); (case hl => rfl); simp only [Act.put, List.setIfInBounds_toArray, List.set_cons_succ, List.set_cons_zero]))
  refine wpR_new (by ((simp only [List.getElem?_toArray, List.getElem?_cons_succ, List.getElem?_cons_zero]; try exact rfl))) _ rfl rfl rfl (fun V v => LitM.lasts _ _) (fun V V' h => rfl) (fun w' hw' hK => ?_) (fun v hv => ?_)
  · have hXs := (hEW.trans hw').x.size
    unfold opAt
    go_simp
    exact upAt_value ⟨ext_alloc _ _, _, _, rfl, hXs, heap_alloc_new _ _⟩
  obtain ⟨h, rfl⟩ : ∃ h, v = .slice (some ⟨h, 0, none⟩) 1 1 := by
    obtain ⟨_, _, _, h, _, e, _⟩ := hv
    exact ⟨h, e⟩
  clear hv
  simp only [Act.put, List.setIfInBounds_toArray, List.set_cons_succ, List.set_cons_zero]
  repeat (first | (apply wpR_one; (case ho => (simp only [List.getElem?_toArray, List.getElem?_cons_succ, List.getElem?_cons_zero]; try exact rfl)); (case hw => rfl); (case hl => rfl); (case hsp => rfl); (case he => rfl); (case hv => (intro w' hw'; (try (have hw2 := Ext.trans hEW hw')); (try (have hw3 := Exc.trans hEW hw')); (try (have hw4 := Exk.trans hEW hw')); (try (have hw5 := Mrk.trans hEW hw')); go_simp; exact rfl)); (case hw0 => (first | exact Below.refl _ _ | exact Exc.of_ext (Below.refl _ _) | exact Exk.of_ext (Below.refl _ _) | exact Mrk.of_ext (Below.refl _ _))); simp only [Act.put, List.setIfInBounds_toArray, List.set_cons_succ, List.set_cons_zero]) | (apply wpR_early; (case ho => (simp only [List.getElem?_toArray, List.getElem?_cons_succ, List.getElem?_cons_zero]; try exact rfl)); (case hw => rfl); (case hl => rfl); (case hsp => rfl); (case he => rfl); (case hv => (intro w' hw'; (try have hw2 := Ext.trans hEW hw'); go_simp; exact rfl)); simp only [Act.put, List.setIfInBounds_toArray, List.set_cons_succ, List.set_cons_zero]) | (apply wpR_pass; (case ho => (simp only [List.getElem?_toArray, List.getElem?_cons_succ, List.getElem?_cons_zero]; try exact rfl)); (case hw => rfl); (case hl => rfl); simp only [Act.put, List.setIfInBounds_toArray, List.set_cons_succ, List.set_cons_zero]))
  refine wpR_late (by ((simp only [List.getElem?_toArray, List.getElem?_cons_succ, List.getElem?_cons_zero]; try exact rfl))) _ rfl rfl (fun V v w' w2 h he => h) (fun V V' h => by simp only [h 20 (by kernel_rfl)]) (fun w' hw' hK hF => ?_) (fun v hv => ?_)
  · obtain ⟨h', fr, e4, hC, hbk⟩ := (hK 20 (by kernel_rfl)).2
    have e5 := sl_inj (show Value.slice (some ⟨h, 0, none⟩) 1 1 = Value.slice (some ⟨h', 0, none⟩) 1 1 from e4)
    subst e5
    have hmk := mrk_freeze (k := 1) hbk hC
    clear hK
    unfold opAt
    go_simp
    rw [run_convert_mark hbk]
    refine upAt_value ?_
    exact ⟨hmk, rfl⟩
  obtain rfl : v = .slice (some ⟨h, 0, none⟩) 1 1 := hv.choose_spec.2
  clear hv
  simp only [Act.put, List.setIfInBounds_toArray, List.set_cons_succ, List.set_cons_zero]
  repeat (first | (apply wpR_one; (case ho => (simp only [List.getElem?_toArray, List.getElem?_cons_succ, List.getElem?_cons_zero]; try exact rfl)); (case hw => rfl); (case hl => rfl); (case hsp => rfl); (case he => rfl); (case hv => (intro w' hw'; (try (have hw2 := Ext.trans hEW hw')); (try (have hw3 := Exc.trans hEW hw')); (try (have hw4 := Exk.trans hEW hw')); (try (have hw5 := Mrk.trans hEW hw')); go_simp; exact rfl)); (case hw0 => (first | exact Below.refl _ _ | exact Exc.of_ext (Below.refl _ _) | exact Exk.of_ext (Below.refl _ _) | exact Mrk.of_ext (Below.refl _ _))); simp only [Act.put, List.setIfInBounds_toArray, List.set_cons_succ, List.set_cons_zero]) | (apply wpR_early; (case ho => (simp only [List.getElem?_toArray, List.getElem?_cons_succ, List.getElem?_cons_zero]; try exact rfl)); (case hw => rfl); (case hl => rfl); (case hsp => rfl); (case he => rfl); (case hv => (intro w' hw'; (try have hw2 := Ext.trans hEW hw'); go_simp; exact rfl)); simp only [Act.put, List.setIfInBounds_toArray, List.set_cons_succ, List.set_cons_zero]) | (apply wpR_pass; (case ho => (simp only [List.getElem?_toArray, List.getElem?_cons_succ, List.getElem?_cons_zero]; try exact rfl)); (case hw => rfl); (case hl => rfl); simp only [Act.put, List.setIfInBounds_toArray, List.set_cons_succ, List.set_cons_zero]))
  refine wpR_new (by ((simp only [List.getElem?_toArray, List.getElem?_cons_succ, List.getElem?_cons_zero]; try exact rfl))) _ rfl rfl rfl (fun V v => boolT.lasts v) (fun V V' h => rfl) (fun w' hw' hK => ?_) (fun v hv => ?_)
  · have HK := Lib.hid (hK 20 (by kernel_rfl)).2
    clear hK
    unfold opAt; go_simp; refine upAt_enter ?_
    have hl : LitM w8.heap.size (cells8 [101]).toArray (.slice (some ⟨h, 0, none⟩) 1 1) w' := HK.out
    refine (eqBytes_any (hS.mrk (hEW.trans hw')) (hl.sl (by decide))).mono ?_
    rintro e w2 ⟨rfl, hE2⟩
    exact ⟨_, rfl, hE2, by rw [show eqB [101] [101] = true from by decide]; exact rfl⟩
  obtain rfl : v = .bool true := hv.choose_spec.2.2
  clear hv
  simp only [Act.put, List.setIfInBounds_toArray, List.set_cons_succ, List.set_cons_zero]
  repeat (first | (apply wpR_one; (case ho => (simp only [List.getElem?_toArray, List.getElem?_cons_succ, List.getElem?_cons_zero]; try exact rfl)); (case hw => rfl); (case hl => rfl); (case hsp => rfl); (case he => rfl); (case hv => (intro w' hw'; (try (have hw2 := Ext.trans hEW hw')); (try (have hw3 := Exc.trans hEW hw')); (try (have hw4 := Exk.trans hEW hw')); (try (have hw5 := Mrk.trans hEW hw')); go_simp; exact rfl)); (case hw0 => (first | exact Below.refl _ _ | exact Exc.of_ext (Below.refl _ _) | exact Exk.of_ext (Below.refl _ _) | exact Mrk.of_ext (Below.refl _ _))); simp only [Act.put, List.setIfInBounds_toArray, List.set_cons_succ, List.set_cons_zero]) | (apply wpR_early; (case ho => (simp only [List.getElem?_toArray, List.getElem?_cons_succ, List.getElem?_cons_zero]; try exact rfl)); (case hw => rfl); (case hl => rfl); (case hsp => rfl); (case he => rfl); (case hv => (intro w' hw'; (try have hw2 := Ext.trans hEW hw'); go_simp; exact rfl)); simp only [Act.put, List.setIfInBounds_toArray, List.set_cons_succ, List.set_cons_zero]) | (apply wpR_pass; (case ho => (simp only [List.getElem?_toArray, List.getElem?_cons_succ, List.getElem?_cons_zero]; try exact rfl)); (case hw => rfl); (case hl => rfl); simp only [Act.put, List.setIfInBounds_toArray, List.set_cons_succ, List.set_cons_zero]))
  apply wpR_nil
  apply hN
  intro w9 hE' hK hF
  clear hK hF hN hv
  have hm := hEW.trans hE'
  have xx0 := x0 w9 hm
  have xx1 := x1 w9 hm
  have xx2 := x2 w9 hm
  have xx3 := x3 w9 hm
  have xx4 := x4 w9 hm
  have yy0 := y0 w9 hm
  have yy1 := y1 w9 hm
  have yy2 := y2 w9 hm
  have yy3 := y3 w9 hm
  have yy4 := y4 w9 hm
  have hE9 : Ext w w9 := hm.to_ext hE hE.size
  have hL9 := hL.mrk hm
  have hR9 := hR.mrk hm
  have hS9 := hS.mrk hm
  have hbr9 := hm.blk hbr
  clear x0 x1 x2 x3 x4 y0 y1 y2 y3 y4 hm hE hL hR hS hbr hEW hE' hW
  go_wp2_with fail
  refine (njoin_any hL9 hR9 hS9 rfl).mono ?_
  rintro e w10 ⟨v, rfl, hO, hE10⟩
  rw [← HL.out, ← HR2.out, wk7] at hO ⊢
  have hJ : PgV w10 v wF := hO.pgv (wsm (by decide) (by decide) (by decide))
  rw [HL.out, HR2.out]
  replace hbr9 := hE10.blk hbr9
  replace hE9 := hE9.trans hE10
  clear hO hE10 hL9 hR9 hS9 xx0 xx1 xx2 xx3 xx4 yy0 yy1 yy2 yy3 yy4
  generalize hp1 : wF = j at hJ
  obtain ⟨tA, tc, tD, td, rfl, hi, hd⟩ := hJ.ex
  have HJ := Lib.hid hp1
  clear hi hd hp1
  go_wp2_with fail
  have hxx := ext_alloc w10 (.cells #[.int .i64 j.kind, .int .i64 j.level, .slice tA j.items.length tc, .slice tD j.data.length td, .int .i64 j.next] 26)
  have hrl : r.items.length = 2 := by rw [← HR.out]; exact wk5
  obtain ⟨bj, h10⟩ : ∃ b, w10.heap.size = b := ⟨_, rfl⟩
  refine wp_cut (fun W => Ext w W ∧ W.heap[bj]? = some (.cells #[.int .i64 j.kind, .int .i64 j.level, .slice tA j.items.length tc, .slice tD j.data.length td, .int .i64 j.next] 26) ∧ W.heap[br]? = some (.cells #[.int .i64 r.kind, .int .i64 r.level, .slice iA3 2 dA3, .slice ic3 r.data.length dc3, .int .i64 r.next] 26) ∧ PgV W (.agg #[.int .i64 j.kind, .int .i64 j.level, .slice tA j.items.length tc, .slice tD j.data.length td, .int .i64 j.next]) j)
    ⟨hE9.trans hxx, by rw [← h10]; exact heap_alloc_new _ _, by have := hxx.blk hbr9; rwa [hrl] at this, hJ.ext hxx⟩ ?_
  rw [h10]
  clear hxx hE9 hbr9 hJ h10 hrl
  rintro w11 ⟨hE, hbj, hbr, hJ⟩
  have HBJ := Lib.hid hbj
  have HBR := Lib.hid hbr
  clear hbj hbr
  have z0 : ∀ w', Ext w11 w' → w'.cell? ⟨bj, 0, none⟩ = some (.int .i64 j.kind) := fun w' h => cell_of_row _ _ _ _ _ _ (h.blk HBJ.out)
  have z1 : ∀ w', Ext w11 w' → w'.cell? ⟨bj, 1, none⟩ = some (.int .i64 j.level) := fun w' h => cell_of_row _ _ _ _ _ _ (h.blk HBJ.out)
  have z2 : ∀ w', Ext w11 w' → w'.cell? ⟨bj, 2, none⟩ = some (.slice tA j.items.length tc) := fun w' h => cell_of_row _ _ _ _ _ _ (h.blk HBJ.out)
  have z3 : ∀ w', Ext w11 w' → w'.cell? ⟨bj, 3, none⟩ = some (.slice tD j.data.length td) := fun w' h => cell_of_row _ _ _ _ _ _ (h.blk HBJ.out)
  have z4 : ∀ w', Ext w11 w' → w'.cell? ⟨bj, 4, none⟩ = some (.int .i64 j.next) := fun w' h => cell_of_row _ _ _ _ _ _ (h.blk HBJ.out)
  have r2 : ∀ w', Ext w11 w' → w'.cell? ⟨br, 2, none⟩ = some (.slice iA3 2 dA3) := fun w' h => cell_of_row _ _ _ _ _ _ (h.blk HBR.out)
  refine wp_region_rg Ext rel_ext (fun _ => True) [0, 1, 2, 3, 4, 5, 6, 7, 8, 9, 10, 11, 12] (fun i => match i with
    | 9 => some fun _ v w' => PgV w' v wF
    | 10 => some fun _ => boolT
    | _ => none) (fun _ => none) (fun _ => false) (by kernel_rfl) (by kernel_rfl) (fun _ _ _ _ => trivial) trivial (fun W N hW _ hN => ?_)
  have hEW : Ext w11 W := hW
  repeat (first | (apply wpR_one; (case ho => (simp only [List.getElem?_toArray, List.getElem?_cons_succ, List.getElem?_cons_zero]; try exact rfl)); (case hw => rfl); (case hl => rfl); (case hsp => rfl); (case he => rfl); (case hv => (intro w' hw'; (try (have hw2 := Ext.trans hEW hw')); (try (have hw3 := Exc.trans hEW hw')); (try (have hw4 := Exk.trans hEW hw')); (try (have hw5 := Mrk.trans hEW hw')); go_simp; exact rfl)); (case hw0 => (first | exact Below.refl _ _ | exact Exc.of_ext (Below.refl _ _) | exact Exk.of_ext (Below.refl _ _) | exact Mrk.of_ext (Below.refl _ _))); simp only [Act.put, List.setIfInBounds_toArray, List.set_cons_succ, List.set_cons_zero]) | (apply wpR_early; (case ho => (simp only [List.getElem?_toArray, List.getElem?_cons_succ, List.getElem?_cons_zero]; try exact rfl)); (case hw => rfl); (case hl => rfl); (case hsp => rfl); (case he => rfl); (case hv => (intro w' hw'; (try have hw2 := Ext.trans hEW hw'); go_simp; exact rfl)); simp only [Act.put, List.setIfInBounds_toArray, List.set_cons_succ, List.set_cons_zero]) | (apply wpR_pass; (case ho => (simp only [List.getElem?_toArray, List.getElem?_cons_succ, List.getElem?_cons_zero]; try exact rfl)); (case hw => rfl); (case hl => rfl); simp only [Act.put, List.setIfInBounds_toArray, List.set_cons_succ, List.set_cons_zero]))
  refine wpR_new (by ((simp only [List.getElem?_toArray, List.getElem?_cons_succ, List.getElem?_cons_zero]; try exact rfl))) _ rfl rfl rfl (fun V v w' w2 h hm => h.ext hm) (fun V V' h => rfl) (fun w' hw' hK => ?_) (fun v hv => ?_)
  · clear hK
    unfold opAt; go_simp; refine upAt_enter ?_
    refine (lettered_any (by decide)).mono ?_
    rintro e w2 ⟨v, rfl, hv, hE2⟩
    have hv' : PgV w2 v wF := hv
    exact ⟨_, rfl, hE2, hv'⟩
  clear hv
  simp only [Act.put, List.setIfInBounds_toArray, List.set_cons_succ, List.set_cons_zero]
  repeat (first | (apply wpR_one; (case ho => (simp only [List.getElem?_toArray, List.getElem?_cons_succ, List.getElem?_cons_zero]; try exact rfl)); (case hw => rfl); (case hl => rfl); (case hsp => rfl); (case he => rfl); (case hv => (intro w' hw'; (try (have hw2 := Ext.trans hEW hw')); (try (have hw3 := Exc.trans hEW hw')); (try (have hw4 := Exk.trans hEW hw')); (try (have hw5 := Mrk.trans hEW hw')); go_simp; exact rfl)); (case hw0 => (first | exact Below.refl _ _ | exact Exc.of_ext (Below.refl _ _) | exact Exk.of_ext (Below.refl _ _) | exact Mrk.of_ext (Below.refl _ _))); simp only [Act.put, List.setIfInBounds_toArray, List.set_cons_succ, List.set_cons_zero]) | (apply wpR_early; (case ho => (simp only [List.getElem?_toArray, List.getElem?_cons_succ, List.getElem?_cons_zero]; try exact rfl)); (case hw => rfl); (case hl => rfl); (case hsp => rfl); (case he => rfl); (case hv => (intro w' hw'; (try have hw2 := Ext.trans hEW hw'); go_simp; exact rfl)); simp only [Act.put, List.setIfInBounds_toArray, List.set_cons_succ, List.set_cons_zero]) | (apply wpR_pass; (case ho => (simp only [List.getElem?_toArray, List.getElem?_cons_succ, List.getElem?_cons_zero]; try exact rfl)); (case hw => rfl); (case hl => rfl); simp only [Act.put, List.setIfInBounds_toArray, List.set_cons_succ, List.set_cons_zero]))
  refine wpR_new (by ((simp only [List.getElem?_toArray, List.getElem?_cons_succ, List.getElem?_cons_zero]; try exact rfl))) _ rfl rfl rfl (fun V v => boolT.lasts v) (fun V V' h => rfl) (fun w' hw' hK => ?_) (fun v hv => ?_)
  · have HK := Lib.hid (hK 9 (by kernel_rfl)).2
    clear hK
    unfold opAt; go_simp; refine upAt_enter ?_
    have hv : PgV w' _ wF := HK.out
    refine (eqPage_any (hJ.ext (hEW.trans hw')) hv).mono ?_
    rintro e w2 ⟨rfl, hE2⟩
    exact ⟨_, rfl, hE2, by rw [← HJ.out, wk10]; exact rfl⟩
  obtain rfl : v = .bool true := hv.choose_spec.2.2
  clear hv
  simp only [Act.put, List.setIfInBounds_toArray, List.set_cons_succ, List.set_cons_zero]
  repeat (first | (apply wpR_one; (case ho => (simp only [List.getElem?_toArray, List.getElem?_cons_succ, List.getElem?_cons_zero]; try exact rfl)); (case hw => rfl); (case hl => rfl); (case hsp => rfl); (case he => rfl); (case hv => (intro w' hw'; (try (have hw2 := Ext.trans hEW hw')); (try (have hw3 := Exc.trans hEW hw')); (try (have hw4 := Exk.trans hEW hw')); (try (have hw5 := Mrk.trans hEW hw')); go_simp; exact rfl)); (case hw0 => (first | exact Below.refl _ _ | exact Exc.of_ext (Below.refl _ _) | exact Exk.of_ext (Below.refl _ _) | exact Mrk.of_ext (Below.refl _ _))); simp only [Act.put, List.setIfInBounds_toArray, List.set_cons_succ, List.set_cons_zero]) | (apply wpR_early; (case ho => (simp only [List.getElem?_toArray, List.getElem?_cons_succ, List.getElem?_cons_zero]; try exact rfl)); (case hw => rfl); (case hl => rfl); (case hsp => rfl); (case he => rfl); (case hv => (intro w' hw'; (try have hw2 := Ext.trans hEW hw'); go_simp; exact rfl)); simp only [Act.put, List.setIfInBounds_toArray, List.set_cons_succ, List.set_cons_zero]) | (apply wpR_pass; (case ho => (simp only [List.getElem?_toArray, List.getElem?_cons_succ, List.getElem?_cons_zero]; try exact rfl)); (case hw => rfl); (case hl => rfl); simp only [Act.put, List.setIfInBounds_toArray, List.set_cons_succ, List.set_cons_zero]))
  apply wpR_nil
  apply hN
  intro w12 hE' hK hF
  have hEE := hE.trans (hEW.trans hE')
  clear hK hF hN z0 z1 z2 z3 z4 r2
  go_wp2
  go_ret
  exact ⟨rfl, hEE⟩
end Go.Proofs.Ytjjbckdiojleeaa
