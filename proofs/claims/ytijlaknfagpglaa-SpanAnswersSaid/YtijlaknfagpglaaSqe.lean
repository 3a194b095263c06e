/- SpanAnswers: spared. No condition but sizes. -/
import Derived.Test.YtijlaknfagpglaaSqd
namespace Go.Proofs.Ytijlaknfagpglaa
open Go.RowKit Go.Proofs
set_option linter.unusedVariables false
set_option linter.unusedSimpArgs false
theorem SpV.lastsOp {C B : Nat} (bs : List UInt8) (v : Value) : Lasts (Exk (OpBlk C)) (SpV B bs v) := fun w w' ⟨A, c, hv, ho⟩ hx => ⟨A, c, hv, (ho.exc hx.x (fun k cs => OpBlk.not8)).mono (Nat.le_refl _) hx.x.size⟩
/-- A range in lists that Spare made. -/
def SRg (B : Nat) (lo hi : List UInt8) (op : Bool) (v : Value) (w : World) : Prop := ∃ A c E d, v = .agg #[.slice A lo.length c, .slice E hi.length d, .bool op] ∧ SpL B w.heap.size w A c lo ∧ SpL B w.heap.size w E d hi
theorem SRg.lastsOp {C B : Nat} (lo hi : List UInt8) (op : Bool) (v : Value) : Lasts (Exk (OpBlk C)) (SRg B lo hi op v) := fun w w' ⟨A, c, E, d, h1, h2, h3⟩ hx =>
  ⟨A, c, E, d, h1, (h2.exc hx.x (fun k cs => OpBlk.not8)).mono (Nat.le_refl _) hx.x.size, (h3.exc hx.x (fun k cs => OpBlk.not8)).mono (Nat.le_refl _) hx.x.size⟩
theorem SRg.open_ {B : Nat} {lo hi : List UInt8} {op : Bool} {A E : Option Addr} {c d : Nat} {w : World} (h : SRg B lo hi op (.agg #[.slice A lo.length c, .slice E hi.length d, .bool op]) w) : SpL B w.heap.size w A c lo ∧ SpL B w.heap.size w E d hi := by
  obtain ⟨A', c', E', d', e, z1, z2⟩ := h
  injection e with e
  simp only [Array.mk.injEq, List.cons.injEq, Value.slice.injEq, true_and, and_true] at e
  obtain ⟨⟨e1, e2⟩, e3, e4⟩ := e
  subst e1 e2 e3 e4
  exact ⟨z1, z2⟩
theorem SpV.open_ {B : Nat} {bs : List UInt8} {A : Option Addr} {c n : Nat} {w : World} (h : SpV B bs (.slice A n c) w) : SpL B w.heap.size w A c bs := by
  obtain ⟨A', c', e, z1⟩ := h
  injection e with e1 _ e2
  subst e1 e2
  exact z1
theorem not8R (k : Nat) (cs : Array Value) : ¬ (∃ cs' fr, Obj.cells cs 5 (0, 0) = Obj.cells cs' 32 fr) := fun ⟨_, _, e⟩ => by injection e with _ e; exact absurd e (by decide)
/-- A marked range behind the others. -/
def TlR (B C : Nat) (w : World) (j : Nat) (f : Fr) : Prop := f.op = true ∧ f.hA = none ∧ f.hc = 0 ∧ f.hi = [] ∧ f.lo = [b8 (j : Int), 200] ∧ f.lc = 2 ∧ ∃ g, f.lA = some ⟨g, 0, none⟩ ∧ B ≤ g ∧ g < C ∧ Blk 5 w g f.lo
theorem TlR.exc {D : Nat → Obj → Prop} {B C C' j : Nat} {w w' : World} {f : Fr} (h : TlR B C w j f) (hx : Exc D w w') (hd : ∀ k cs, ¬ D k (.cells cs 5 (0, 0))) (hC : C ≤ C') : TlR B C' w' j f := by
  obtain ⟨h1, h2, h3, h4, h5, h6, g, h7, h8, h9, h10⟩ := h
  exact ⟨h1, h2, h3, h4, h5, h6, g, h7, h8, by omega, hx.blk h10 (hd _ _)⟩
theorem TlR.low {B B' C j : Nat} {w : World} {f : Fr} (h : TlR B C w j f) (hB : B' ≤ B) : TlR B' C w j f := by
  obtain ⟨h1, h2, h3, h4, h5, h6, g, h7, h8, h9, h10⟩ := h
  exact ⟨h1, h2, h3, h4, h5, h6, g, h7, by omega, h9, h10⟩
theorem TlR.ext {B C j : Nat} {w w' : World} {f : Fr} (h : TlR B C w j f) (he : Ext w w') : TlR B C w' j f := h.exc (D := fun _ _ => False) (Exc.of_ext he) (fun _ _ h => h) (Nat.le_refl _)
/-- Place j of the row that spared makes. -/
def ElS (B : Nat) (l : List Fr) (w : World) (j : Nat) (f : Fr) : Prop := (∀ t, l[j]? = some t → rg f = rg t ∧ SpL B w.heap.size w f.lA f.lc f.lo ∧ SpL B w.heap.size w f.hA f.hc f.hi) ∧ (l.length ≤ j → TlR B w.heap.size w j f)
theorem ElS.exc {D : Nat → Obj → Prop} {B j : Nat} {l : List Fr} {w w' : World} {f : Fr} (h : ElS B l w j f) (hx : Exc D w w') (hd : ∀ k cs, ¬ D k (.cells cs 5 (0, 0))) : ElS B l w' j f :=
  ⟨fun t ht => ⟨(h.1 t ht).1, ((h.1 t ht).2.1.exc hx hd).mono (Nat.le_refl _) hx.size, ((h.1 t ht).2.2.exc hx hd).mono (Nat.le_refl _) hx.size⟩, fun hj => (h.2 hj).exc hx hd hx.size⟩
theorem own_made4 {w : World} {g m n B : Nat} {z : Value} {e : TypeId} (h : w.heap[g]? = some (.cells (madeCells z.cells (m * n)) e (0, 0))) (hB : B ≤ g) (hm : m ≤ maxLen) : ∃ xs, w.ownsRow B e n (.slice (some ⟨g, 0, none⟩) m m) m xs := by
  have hs : (madeCells z.cells (m * n)).size = m * n := by simp [madeCells]
  refine ⟨(madeCells z.cells (m * n)).toList, by simpa using hs, .inr ⟨g, m, _, rfl, hB, h, Nat.le_refl _, hm, hs, ?_⟩⟩
  rw [List.take_of_length_le (by simp [hs])]
theorem own_whole {w : World} {g m n B : Nat} {e : TypeId} {xs : List Value} (h : w.ownsRow B e n (.slice (some ⟨g, 0, none⟩) m m) m xs) : w.heap[g]? = some (.cells xs.toArray e (0, 0)) := by
  rcases h.2 with ⟨hv, _⟩ | ⟨g', cap, cur, hv, _, hg, _, _, hs, ht⟩
  · cases hv
  · injection hv with h1 _ h3
    injection h1 with h1
    injection h1 with h1
    subst h1 h3
    rw [hg]
    congr 2
    rw [← ht, List.take_of_length_le (by simp [hs])]
theorem flat_next {fs : List Fr} {f : Fr} {rest : List Value} {k : Nat} (hk : fs.length = k) : (fs.flatMap c3 ++ rest).take (k * 3) ++ c3 f ++ (fs.flatMap c3 ++ rest).drop ((k + 1) * 3) = (fs ++ [f]).flatMap c3 ++ rest.drop 3 := by
  have hl := len_flat fs
  rw [hk] at hl
  rw [List.take_append_of_le_length (by omega), List.take_of_length_le (by omega), List.drop_append, List.drop_of_length_le (by omega), hl, List.flatMap_append, show (k + 1) * 3 - k * 3 = 3 by omega]
  simp
theorem exc_rg {B gi m n : Nat} {w w' : World} {o : Obj} {xs : List Value} (h : w.ownsRow B 32 n (.slice (some ⟨gi, 0, none⟩) m m) m xs) (hl : gi < w.heap.size) (hg : (w.alloc o).grownBy w' (some gi)) : Exc (fun k o => ∃ cs fr, o = Obj.cells cs 32 fr) w w' :=
  (Exc.of_ext (ext_alloc w o)).trans (Exc.of_only hg (fun o' ho => by
    obtain ⟨_, cs, hc⟩ := own_blk (World.ownsRow.alloc h o) (q := gi) rfl
    rw [hc] at ho
    injection ho with ho
    exact ⟨_, _, ho.symm⟩))
theorem els_take {B : Nat} {l fs : List Fr} {w : World} (h : ∀ (j : Nat) (f : Fr), fs[j]? = some f → ElS B l w j f) (hl : l.length ≤ fs.length) : (fs.take l.length).map rg = l.map rg := by
  apply List.ext_getElem?
  intro j
  by_cases hj : j < l.length
  · obtain ⟨f, hf⟩ : ∃ f, fs[j]? = some f := ⟨_, List.getElem?_eq_getElem (by omega)⟩
    obtain ⟨t, ht⟩ : ∃ t, l[j]? = some t := ⟨_, List.getElem?_eq_getElem hj⟩
    have h1 := ((h j f hf).1 t ht).1
    rw [List.getElem?_map, List.getElem?_map, List.getElem?_take, if_pos hj, hf, ht]
    simp [h1]
  · rw [List.getElem?_eq_none (by simp; omega), List.getElem?_eq_none (by simp; omega)]
theorem els_mem {B : Nat} {l fs : List Fr} {w : World} (h : ∀ (j : Nat) (f : Fr), fs[j]? = some f → ElS B l w j f) : ∀ f ∈ fs.take l.length, SpL B w.heap.size w f.lA f.lc f.lo ∧ SpL B w.heap.size w f.hA f.hc f.hi := by
  intro f hf
  obtain ⟨j, hj, he⟩ := List.mem_iff_getElem.1 hf
  have hjl : j < l.length := by simp at hj; omega
  have h1 : fs[j]? = some f := by
    rw [List.getElem_take] at he
    rw [List.getElem?_eq_getElem (by simp at hj; omega), he]
  exact ((h j f h1).1 _ (List.getElem?_eq_getElem hjl)).2
theorem els_drop {B : Nat} {l fs : List Fr} {w : World} (h : ∀ (j : Nat) (f : Fr), fs[j]? = some f → ElS B l w j f) (hl : l.length ≤ fs.length) : ∀ (j : Nat) (t : Fr), (fs.drop l.length)[j]? = some t → TlR B w.heap.size w ((fs.take l.length).length + j) t := by
  intro j t ht
  rw [List.getElem?_drop] at ht
  rw [List.length_take, Nat.min_eq_left hl]
  exact (h _ t ht).2 (by omega)
theorem not8RO (k : Nat) (cs : Array Value) : ¬ ((∃ cs' fr, Obj.cells cs 5 (0, 0) = Obj.cells cs' 32 fr) ∨ ∃ cs' fr, Obj.cells cs 5 (0, 0) = Obj.cells cs' 47 fr) := fun h => by
  rcases h with ⟨_, _, e⟩ | ⟨_, _, e⟩ <;> (injection e with _ e; exact absurd e (by decide))
/-- A call that spared made. -/
structure OpS (B C : Nat) (w : World) (o : Opn) : Prop where
  a : SpL B C w o.aA o.ac o.a
  b : SpL B C w o.bA o.bc o.b
  rl : SpL B C w o.r.lA o.r.lc o.r.lo
  rh : SpL B C w o.r.hA o.r.hc o.r.hi
  sl : SpL B C w o.s.lA o.s.lc o.s.lo
  sh : SpL B C w o.s.hA o.s.hc o.s.hi
  l : ∀ f ∈ o.l, SpL B C w f.lA f.lc f.lo ∧ SpL B C w f.hA f.hc f.hi
  row : ∃ g tl, o.lA = some ⟨g, 0, none⟩ ∧ o.lc = o.l.length + 3 ∧ B ≤ g ∧ g < C ∧ w.heap[g]? = some (.cells ((o.l ++ tl).flatMap c3).toArray 32 (0, 0)) ∧ tl.length = 3 ∧ ∀ (j : Nat) (t : Fr), tl[j]? = some t → TlR B C w (o.l.length + j) t
theorem OpS.ext {B C : Nat} {w w' : World} {o : Opn} (h : OpS B C w o) (he : Ext w w') : OpS B C w' o := by
  refine ⟨h.a.ext he, h.b.ext he, h.rl.ext he, h.rh.ext he, h.sl.ext he, h.sh.ext he, fun f hf => ⟨(h.l f hf).1.ext he, (h.l f hf).2.ext he⟩, ?_⟩
  obtain ⟨g, tl, h1, h2, h3, h4, h5, h6, h7⟩ := h.row
  exact ⟨g, tl, h1, h2, h3, h4, he.blk h5, h6, fun j t ht => (h7 j t ht).ext he⟩
set_option maxRecDepth 100000 in
set_option maxHeartbeats 4000000 in
theorem spared_any {w : World} {o : Opn} (h : OpR w o) : Calls Try.prog 33 #[o.v] w fun e w' => ∃ o2 : Opn, e = .returned o2.v ∧ o2.p = o.p ∧ OpS w.heap.size w'.heap.size w' o2 ∧ Ext w w' := by
  obtain ⟨i0, hti, hz0, hz1, hz2⟩ := info_parts infoRg
  obtain ⟨kd, aA, ac, a, bA, bc, b, ⟨rlA, rlc, rlo, rhA, rhc, rhi, rop⟩, ⟨slA, slc, slo, shA, shc, shi, sop⟩, lA, lc, l⟩ := o
  obtain ⟨sa, sb, srl, srh, ssl, ssh, sl, hn, hle, hcap, za, zb, zrl, zrh, zsl, zsh, zl⟩ := h
  dsimp only [Opn.v] at sa sb srl srh ssl ssh sl hn hle hcap za zb zrl zrh zsl zsh zl ⊢
  clear za zb zrl zrh zsl zsh zl
  go_enter Try.func33, Try.ntmps33
  go_wp2
  refine wp_cut (fun W => Ext w W ∧ W.heap[w.heap.size]? = some (.cells #[.int .i64 kd, .slice aA a.length ac, .slice bA b.length bc, .slice rlA rlo.length rlc, .slice rhA rhi.length rhc, .bool rop, .slice slA slo.length slc, .slice shA shi.length shc, .bool sop, .slice lA l.length lc] 47) ∧ W.heap[w.heap.size + 1]? = some (.cells #[.int .i64 0, .slice none 0 0, .slice none 0 0, .slice none 0 0, .slice none 0 0, .bool false, .slice none 0 0, .slice none 0 0, .bool false, .slice none 0 0] 47)) ⟨(ext_alloc _ _).trans (ext_alloc _ _), heap_alloc2_old _ _ _, heap_alloc2_new _ _ _⟩ ?_
  rintro w1 ⟨hE, b0, b1⟩
  have H0 := Lib.hid b0
  have H1 := Lib.hid b1
  have hw1 : w.heap.size + 1 < w1.heap.size := (Array.getElem?_eq_some_iff.1 b1).1
  clear b0 b1
  refine wp_region_rg (Exk (OpBlk w1.heap.size)) (rel_exk _) (fun _ => True) [0, 1, 2, 3, 4, 5, 6, 7, 8, 9, 10, 11, 12, 13, 14, 15, 16] (fun i => match i with
    | 4 => some fun V => SpV w1.heap.size a
    | 7 => some fun V => SpV w1.heap.size b
    | 10 => some fun V => SRg w1.heap.size rlo rhi rop
    | 13 => some fun V => SRg w1.heap.size slo shi sop
    | 15 => some fun V => OpCell w1.heap.size
    | _ => none) (fun i => match i with
    | 16 => some fun V _ => OpOut w1.heap.size kd (V 4) (V 7) (V 10) (V 13) (V 15)
    | _ => none) (fun _ => false) (by kernel_rfl) (by kernel_rfl) (fun _ _ h he => trivial) trivial (fun W N hW hF0 hN => ?_)
  have hEW : Exk (OpBlk w1.heap.size) w1 W := Exk.of_ext hW
  have hX : ∀ w', Exk (OpBlk w1.heap.size) W w' → Ext w w' := fun w' h => (Exk.trans hEW h).x.to_ext hE (fun k _ hk => by have := hk.1; omega)
  have e0 : ∀ w', Exk (OpBlk w1.heap.size) w1 w' → w'.cell? ⟨w.heap.size, 0, none⟩ = some (.int .i64 kd) := fun w' h => cell_of_row _ _ _ _ _ _ (h.x.blk H0.out (OpBlk.notLt (by omega)))
  have e1 : ∀ w', Exk (OpBlk w1.heap.size) w1 w' → w'.cell? ⟨w.heap.size, 1, none⟩ = some (.slice aA a.length ac) := fun w' h => cell_of_row _ _ _ _ _ _ (h.x.blk H0.out (OpBlk.notLt (by omega)))
  have e2 : ∀ w', Exk (OpBlk w1.heap.size) w1 w' → w'.cell? ⟨w.heap.size, 2, none⟩ = some (.slice bA b.length bc) := fun w' h => cell_of_row _ _ _ _ _ _ (h.x.blk H0.out (OpBlk.notLt (by omega)))
  have e3 : ∀ w', Exk (OpBlk w1.heap.size) w1 w' → w'.cell? ⟨w.heap.size, 3, none⟩ = some (.slice rlA rlo.length rlc) := fun w' h => cell_of_row _ _ _ _ _ _ (h.x.blk H0.out (OpBlk.notLt (by omega)))
  have e4 : ∀ w', Exk (OpBlk w1.heap.size) w1 w' → w'.cell? ⟨w.heap.size, 4, none⟩ = some (.slice rhA rhi.length rhc) := fun w' h => cell_of_row _ _ _ _ _ _ (h.x.blk H0.out (OpBlk.notLt (by omega)))
  have e5 : ∀ w', Exk (OpBlk w1.heap.size) w1 w' → w'.cell? ⟨w.heap.size, 5, none⟩ = some (.bool rop) := fun w' h => cell_of_row _ _ _ _ _ _ (h.x.blk H0.out (OpBlk.notLt (by omega)))
  have e6 : ∀ w', Exk (OpBlk w1.heap.size) w1 w' → w'.cell? ⟨w.heap.size, 6, none⟩ = some (.slice slA slo.length slc) := fun w' h => cell_of_row _ _ _ _ _ _ (h.x.blk H0.out (OpBlk.notLt (by omega)))
  have e7 : ∀ w', Exk (OpBlk w1.heap.size) w1 w' → w'.cell? ⟨w.heap.size, 7, none⟩ = some (.slice shA shi.length shc) := fun w' h => cell_of_row _ _ _ _ _ _ (h.x.blk H0.out (OpBlk.notLt (by omega)))
  have e8 : ∀ w', Exk (OpBlk w1.heap.size) w1 w' → w'.cell? ⟨w.heap.size, 8, none⟩ = some (.bool sop) := fun w' h => cell_of_row _ _ _ _ _ _ (h.x.blk H0.out (OpBlk.notLt (by omega)))
  repeat (first | (apply wpR_one; (case ho => (simp only [List.getElem?_toArray, List.getElem?_cons_succ, List.getElem?_cons_zero]; try exact rfl)); (case hw => rfl); (case hl => rfl); (case hsp => rfl); (case he => rfl); (case hv => (intro w' hw'; (try (have hw2 := Ext.trans hEW hw')); (try (have hw3 := Exc.trans hEW hw')); (try (have hw4 := Exk.trans hEW hw')); (try (have hw5 := Mrk.trans hEW hw')); go_simp; exact rfl)); (case hw0 => (first | exact Below.refl _ _ | exact Exc.of_ext (Below.refl _ _) | exact Exk.of_ext (Below.refl _ _) | exact Mrk.of_ext (Below.refl _ _))); simp only [Act.put, List.setIfInBounds_toArray, List.set_cons_succ, List.set_cons_zero]) | (apply wpR_early; (case ho => (simp only [List.getElem?_toArray, List.getElem?_cons_succ, List.getElem?_cons_zero]; try exact rfl)); (case hw => rfl); (case hl => rfl); (case hsp => rfl); (case he => rfl); (case hv => (intro w' hw'; (try have hw2 := Ext.trans hEW hw'); go_simp; exact rfl)); simp only [Act.put, List.setIfInBounds_toArray, List.set_cons_succ, List.set_cons_zero]) | (apply wpR_pass; (case ho => (simp only [List.getElem?_toArray, List.getElem?_cons_succ, List.getElem?_cons_zero]; try exact rfl)); (case hw => rfl); (case hl => rfl); simp only [Act.put, List.setIfInBounds_toArray, List.set_cons_succ, List.set_cons_zero]))
  refine wpR_new (by ((simp only [List.getElem?_toArray, List.getElem?_cons_succ, List.getElem?_cons_zero]; try exact rfl))) _ rfl rfl rfl (fun V v => SpV.lastsOp _ _) (fun V V' h => rfl) (fun w' hw' hK => ?_) (fun v hv => ?_)
  · have HX := Lib.hid (hX w' hw')
    have hs := (hEW.trans hw').x.size
    clear hK
    unfold opAt; go_simp; refine upAt_enter ?_
    refine (spare_spl (sa.ext HX.out) rfl).mono ?_
    rintro e w9 ⟨A, c, rfl, ho, hE9⟩
    exact ⟨_, rfl, hE9, A, c, rfl, ho.mono hs (Nat.le_refl _)⟩
  obtain ⟨A1, c1, rfl⟩ : ∃ A c, v = .slice A a.length c := by
    obtain ⟨_, _, _, A, c, h, _⟩ := hv
    exact ⟨A, c, h⟩
  clear hv
  simp only [Act.put, List.setIfInBounds_toArray, List.set_cons_succ, List.set_cons_zero]
  repeat (first | (apply wpR_one; (case ho => (simp only [List.getElem?_toArray, List.getElem?_cons_succ, List.getElem?_cons_zero]; try exact rfl)); (case hw => rfl); (case hl => rfl); (case hsp => rfl); (case he => rfl); (case hv => (intro w' hw'; (try (have hw2 := Ext.trans hEW hw')); (try (have hw3 := Exc.trans hEW hw')); (try (have hw4 := Exk.trans hEW hw')); (try (have hw5 := Mrk.trans hEW hw')); go_simp; exact rfl)); (case hw0 => (first | exact Below.refl _ _ | exact Exc.of_ext (Below.refl _ _) | exact Exk.of_ext (Below.refl _ _) | exact Mrk.of_ext (Below.refl _ _))); simp only [Act.put, List.setIfInBounds_toArray, List.set_cons_succ, List.set_cons_zero]) | (apply wpR_early; (case ho => (simp only [List.getElem?_toArray, List.getElem?_cons_succ, List.getElem?_cons_zero]; try exact rfl)); (case hw => rfl); (case hl => rfl); (case hsp => rfl); (case he => rfl); (case hv => (intro w' hw'; (try have hw2 := Ext.trans hEW hw'); go_simp; exact rfl)); simp only [Act.put, List.setIfInBounds_toArray, List.set_cons_succ, List.set_cons_zero]) | (apply wpR_pass; (case ho => (simp only [List.getElem?_toArray, List.getElem?_cons_succ, List.getElem?_cons_zero]; try exact rfl)); (case hw => rfl); (case hl => rfl); simp only [Act.put, List.setIfInBounds_toArray, List.set_cons_succ, List.set_cons_zero]))
  refine wpR_new (by ((simp only [List.getElem?_toArray, List.getElem?_cons_succ, List.getElem?_cons_zero]; try exact rfl))) _ rfl rfl rfl (fun V v => SpV.lastsOp _ _) (fun V V' h => rfl) (fun w' hw' hK => ?_) (fun v hv => ?_)
  · have HX := Lib.hid (hX w' hw')
    have hs := (hEW.trans hw').x.size
    clear hK
    unfold opAt; go_simp; refine upAt_enter ?_
    refine (spare_spl (sb.ext HX.out) rfl).mono ?_
    rintro e w9 ⟨A, c, rfl, ho, hE9⟩
    exact ⟨_, rfl, hE9, A, c, rfl, ho.mono hs (Nat.le_refl _)⟩
  obtain ⟨A2, c2, rfl⟩ : ∃ A c, v = .slice A b.length c := by
    obtain ⟨_, _, _, A, c, h, _⟩ := hv
    exact ⟨A, c, h⟩
  clear hv
  simp only [Act.put, List.setIfInBounds_toArray, List.set_cons_succ, List.set_cons_zero]
  repeat (first | (apply wpR_one; (case ho => (simp only [List.getElem?_toArray, List.getElem?_cons_succ, List.getElem?_cons_zero]; try exact rfl)); (case hw => rfl); (case hl => rfl); (case hsp => rfl); (case he => rfl); (case hv => (intro w' hw'; (try (have hw2 := Ext.trans hEW hw')); (try (have hw3 := Exc.trans hEW hw')); (try (have hw4 := Exk.trans hEW hw')); (try (have hw5 := Mrk.trans hEW hw')); go_simp; exact rfl)); (case hw0 => (first | exact Below.refl _ _ | exact Exc.of_ext (Below.refl _ _) | exact Exk.of_ext (Below.refl _ _) | exact Mrk.of_ext (Below.refl _ _))); simp only [Act.put, List.setIfInBounds_toArray, List.set_cons_succ, List.set_cons_zero]) | (apply wpR_early; (case ho => (simp only [List.getElem?_toArray, List.getElem?_cons_succ, List.getElem?_cons_zero]; try exact rfl)); (case hw => rfl); (case hl => rfl); (case hsp => rfl); (case he => rfl); (case hv => (intro w' hw'; (try have hw2 := Ext.trans hEW hw'); go_simp; exact rfl)); simp only [Act.put, List.setIfInBounds_toArray, List.set_cons_succ, List.set_cons_zero]) | (apply wpR_pass; (case ho => (simp only [List.getElem?_toArray, List.getElem?_cons_succ, List.getElem?_cons_zero]; try exact rfl)); (case hw => rfl); (case hl => rfl); simp only [Act.put, List.setIfInBounds_toArray, List.set_cons_succ, List.set_cons_zero]))
  refine wpR_new (by ((simp only [List.getElem?_toArray, List.getElem?_cons_succ, List.getElem?_cons_zero]; try exact rfl))) _ rfl rfl rfl (fun V v => SRg.lastsOp _ _ _ _) (fun V V' h => rfl) (fun w' hw' hK => ?_) (fun v hv => ?_)
  · have HX := Lib.hid (hX w' hw')
    have hs := (hEW.trans hw').x.size
    clear hK
    unfold opAt; go_simp; refine upAt_enter ?_
    refine (spareRange_any (op := rop) (srl.ext HX.out) (srh.ext HX.out)).mono ?_
    rintro e w9 ⟨A, c, E, d, rfl, ho, ho2, hE9⟩
    exact ⟨_, rfl, hE9, A, c, E, d, rfl, ho.mono hs (Nat.le_refl _), ho2.mono hs (Nat.le_refl _)⟩
  obtain ⟨A3, c3', A4, c4, rfl⟩ : ∃ A c E d, v = .agg #[.slice A rlo.length c, .slice E rhi.length d, .bool rop] := by
    obtain ⟨_, _, _, A, c, E, d, h, _⟩ := hv
    exact ⟨A, c, E, d, h⟩
  clear hv
  simp only [Act.put, List.setIfInBounds_toArray, List.set_cons_succ, List.set_cons_zero]
  repeat (first | (apply wpR_one; (case ho => (simp only [List.getElem?_toArray, List.getElem?_cons_succ, List.getElem?_cons_zero]; try exact rfl)); (case hw => rfl); (case hl => rfl); (case hsp => rfl); (case he => rfl); (case hv => (intro w' hw'; (try (have hw2 := Ext.trans hEW hw')); (try (have hw3 := Exc.trans hEW hw')); (try (have hw4 := Exk.trans hEW hw')); (try (have hw5 := Mrk.trans hEW hw')); go_simp; exact rfl)); (case hw0 => (first | exact Below.refl _ _ | exact Exc.of_ext (Below.refl _ _) | exact Exk.of_ext (Below.refl _ _) | exact Mrk.of_ext (Below.refl _ _))); simp only [Act.put, List.setIfInBounds_toArray, List.set_cons_succ, List.set_cons_zero]) | (apply wpR_early; (case ho => (simp only [List.getElem?_toArray, List.getElem?_cons_succ, List.getElem?_cons_zero]; try exact rfl)); (case hw => rfl); (case hl => rfl); (case hsp => rfl); (case he => rfl); (case hv => (intro w' hw'; (try have hw2 := Ext.trans hEW hw'); go_simp; exact rfl)); simp only [Act.put, List.setIfInBounds_toArray, List.set_cons_succ, List.set_cons_zero]) | (apply wpR_pass; (case ho => (simp only [List.getElem?_toArray, List.getElem?_cons_succ, List.getElem?_cons_zero]; try exact rfl)); (case hw => rfl); (case hl => rfl); simp only [Act.put, List.setIfInBounds_toArray, List.set_cons_succ, List.set_cons_zero]))
  refine wpR_new (by ((simp only [List.getElem?_toArray, List.getElem?_cons_succ, List.getElem?_cons_zero]; try exact rfl))) _ rfl rfl rfl (fun V v => SRg.lastsOp _ _ _ _) (fun V V' h => rfl) (fun w' hw' hK => ?_) (fun v hv => ?_)
  · have HX := Lib.hid (hX w' hw')
    have hs := (hEW.trans hw').x.size
    clear hK
    unfold opAt; go_simp; refine upAt_enter ?_
    refine (spareRange_any (op := sop) (ssl.ext HX.out) (ssh.ext HX.out)).mono ?_
    rintro e w9 ⟨A, c, E, d, rfl, ho, ho2, hE9⟩
    exact ⟨_, rfl, hE9, A, c, E, d, rfl, ho.mono hs (Nat.le_refl _), ho2.mono hs (Nat.le_refl _)⟩
  obtain ⟨A5, c5, A6, c6, rfl⟩ : ∃ A c E d, v = .agg #[.slice A slo.length c, .slice E shi.length d, .bool sop] := by
    obtain ⟨_, _, _, A, c, E, d, h, _⟩ := hv
    exact ⟨A, c, E, d, h⟩
  clear hv
  simp only [Act.put, List.setIfInBounds_toArray, List.set_cons_succ, List.set_cons_zero]
  repeat (first | (apply wpR_one; (case ho => (simp only [List.getElem?_toArray, List.getElem?_cons_succ, List.getElem?_cons_zero]; try exact rfl)); (case hw => rfl); (case hl => rfl); (case hsp => rfl); (case he => rfl); (case hv => (intro w' hw'; (try (have hw2 := Ext.trans hEW hw')); (try (have hw3 := Exc.trans hEW hw')); (try (have hw4 := Exk.trans hEW hw')); (try (have hw5 := Mrk.trans hEW hw')); go_simp; exact rfl)); (case hw0 => (first | exact Below.refl _ _ | exact Exc.of_ext (Below.refl _ _) | exact Exk.of_ext (Below.refl _ _) | exact Mrk.of_ext (Below.refl _ _))); simp only [Act.put, List.setIfInBounds_toArray, List.set_cons_succ, List.set_cons_zero]) | (apply wpR_early; (case ho => (simp only [List.getElem?_toArray, List.getElem?_cons_succ, List.getElem?_cons_zero]; try exact rfl)); (case hw => rfl); (case hl => rfl); (case hsp => rfl); (case he => rfl); (case hv => (intro w' hw'; (try have hw2 := Ext.trans hEW hw'); go_simp; exact rfl)); simp only [Act.put, List.setIfInBounds_toArray, List.set_cons_succ, List.set_cons_zero]) | (apply wpR_pass; (case ho => (simp only [List.getElem?_toArray, List.getElem?_cons_succ, List.getElem?_cons_zero]; try exact rfl)); (case hw => rfl); (case hl => rfl); simp only [Act.put, List.setIfInBounds_toArray, List.set_cons_succ, List.set_cons_zero]))
  refine wpR_alloc (by ((simp only [List.getElem?_toArray, List.getElem?_cons_succ, List.getElem?_cons_zero]; try exact rfl))) _ rfl rfl rfl (fun V v => OpCell.lasts _ _) (fun V V' h => rfl) (fun w' hw' hK => ?_) (fun v hv => ?_)
  · have hXs := (hEW.trans hw').x.size
    unfold opAt
    go_simp
    exact upAt_value ⟨ext_alloc _ _, ⟨_, rfl, hXs, _, heap_alloc_new _ _, rfl⟩, fun _ g hg => by injection hg with hg; exact ⟨hg.symm, by simp⟩⟩
  obtain ⟨g3, rfl⟩ : ∃ g, v = .pointer (some ⟨g, 0, none⟩) := by
    obtain ⟨_, _, _, g, e, _⟩ := hv
    exact ⟨g, e⟩
  clear hv
  simp only [Act.put, List.setIfInBounds_toArray, List.set_cons_succ, List.set_cons_zero]
  refine wpR_late (by ((simp only [List.getElem?_toArray, List.getElem?_cons_succ, List.getElem?_cons_zero]; try exact rfl))) _ rfl rfl (fun V v w' w2 h he => OpOut.ext h he) (fun V V' h => by simp only [h 4 (by kernel_rfl), h 7 (by kernel_rfl), h 10 (by kernel_rfl), h 13 (by kernel_rfl), h 15 (by kernel_rfl)]) (fun w' hw' hK hF => ?_) (fun v hv => ?_)
  · obtain ⟨g, e8, hg8, cs, hb8, hs8⟩ := (hK 15 (by kernel_rfl)).2
    obtain rfl := ptrO_inj (show Value.pointer (some ⟨g3, 0, none⟩) = _ from e8)
    refine opAt_list rfl #[] (fun Q hQ => ?_)
    refine wpList_store_box rfl 47 _ _ rfl g3 _ rfl rfl 47 _ hb8 (by kernel_rfl) hs8 (by simp [Value.oneCell']) (fun w2 hb hg => ?_)
    exact hQ _ _ ⟨Exk.of_only hg hb8 hb (by rw [hs8]; rfl) ⟨hg8, _, _, rfl⟩, ⟨g3, rfl, hg8, hb⟩⟩
  clear hv
  apply wpR_nil
  apply hN
  intro w2 hE' hK hF
  have hx := (hEW.trans hE').x
  have k1 := SpV.open_ (show SpV w1.heap.size a (.slice A1 a.length c1) w2 from (hK 4).2)
  have k2 := SpV.open_ (show SpV w1.heap.size b (.slice A2 b.length c2) w2 from (hK 7).2)
  have K3 := SRg.open_ (show SRg w1.heap.size rlo rhi rop (.agg #[.slice A3 rlo.length c3', .slice A4 rhi.length c4, .bool rop]) w2 from (hK 10).2)
  have K4 := SRg.open_ (show SRg w1.heap.size slo shi sop (.agg #[.slice A5 slo.length c5, .slice A6 shi.length c6, .bool sop]) w2 from (hK 13).2)
  have hF2 : OpOut w1.heap.size kd (.slice A1 a.length c1) (.slice A2 b.length c2) (.agg #[.slice A3 rlo.length c3', .slice A4 rhi.length c4, .bool rop]) (.agg #[.slice A5 slo.length c5, .slice A6 shi.length c6, .bool sop]) (.pointer (some ⟨g3, 0, none⟩)) w2 := hF
  obtain ⟨_, x1, x2, x3⟩ := hF2
  obtain rfl := ptrO_inj (show Value.pointer (some ⟨g3, 0, none⟩) = _ from x1)
  have h3 : w2.heap[g3]? = some (.cells #[.int .i64 kd, .slice A1 a.length c1, .slice A2 b.length c2, .slice A3 rlo.length c3', .slice A4 rhi.length c4, .bool rop, .slice A5 slo.length c5, .slice A6 shi.length c6, .bool sop, .slice none 0 0] 47) := x3
  have hB2 : w.heap.size + 2 ≤ w1.heap.size := by omega
  have HO := Lib.hid (show SpL (w.heap.size + 2) w2.heap.size w2 A1 c1 a ∧ SpL (w.heap.size + 2) w2.heap.size w2 A2 c2 b ∧ SpL (w.heap.size + 2) w2.heap.size w2 A3 c3' rlo ∧ SpL (w.heap.size + 2) w2.heap.size w2 A4 c4 rhi ∧ SpL (w.heap.size + 2) w2.heap.size w2 A5 c5 slo ∧ SpL (w.heap.size + 2) w2.heap.size w2 A6 c6 shi from
    ⟨k1.mono hB2 (Nat.le_refl _), k2.mono hB2 (Nat.le_refl _), K3.1.mono hB2 (Nat.le_refl _), K3.2.mono hB2 (Nat.le_refl _), K4.1.mono hB2 (Nat.le_refl _), K4.2.mono hB2 (Nat.le_refl _)⟩)
  have H3 := Lib.hid h3
  have hE2 := hX w2 hE'
  replace H0 := Lib.hid (hx.blk H0.out (OpBlk.notLt (by omega)))
  replace H1 := Lib.hid (hx.blk H1.out (OpBlk.notLt (by omega)))
  have hg3 : w.heap.size + 2 ≤ g3 := by omega
  have hg3l : g3 < w2.heap.size := (Array.getElem?_eq_some_iff.1 h3).1
  have hw2 : w.heap.size + 2 ≤ w2.heap.size := by omega
  clear hK hN k1 k2 K3 K4 x1 x2 x3 h3 hx hE hX hEW hE' hW hF0 e0 e1 e2 e3 e4 e5 e6 e7 e8 hF hB2
  have p9 := cell_of_row w2 w.heap.size 9 _ _ _ H0.out
  simp at p9
  go_wp2_with (at_make; refine wpList_make_any _ rfl _ _ 37 rfl 32 i0 _ 3 Try.underlying37 hti hz0 hz1 _ _ _ _ (l.length + 3) (l.length + 3) rfl rfl (by omega) (by omega) (Nat.le_refl _) (by rw [hz2]; omega) (by omega) ?_; intro w3 hb3 hgrow3)
  obtain ⟨xs0, hrow0⟩ := own_made4 (B := w.heap.size + 2) hb3 hw2 (by simp [maxLen]; omega)
  have hEm : Ext w2 w3 := ext_make hgrow3
  obtain ⟨gi, hgi⟩ : ∃ gi, w2.heap.size = gi := ⟨_, rfl⟩
  rw [hgi] at hrow0 ⊢
  obtain ⟨m, hm⟩ : ∃ m, l.length + 3 = m := ⟨_, rfl⟩
  rw [hm] at hrow0 ⊢
  have HM := Lib.hid hm
  have hm3 : 3 ≤ m := by omega
  have hlm : l.length ≤ m := by omega
  have hm63 : m ≤ 63 := by omega
  have hw3s := hEm.size
  have hgg : g3 < gi := by omega
  have hgB : w.heap.size + 2 ≤ gi := by omega
  replace HO := Lib.hid (show SpL (w.heap.size + 2) w3.heap.size w3 A1 c1 a ∧ SpL (w.heap.size + 2) w3.heap.size w3 A2 c2 b ∧ SpL (w.heap.size + 2) w3.heap.size w3 A3 c3' rlo ∧ SpL (w.heap.size + 2) w3.heap.size w3 A4 c4 rhi ∧ SpL (w.heap.size + 2) w3.heap.size w3 A5 c5 slo ∧ SpL (w.heap.size + 2) w3.heap.size w3 A6 c6 shi from ⟨(HO.out.1.ext hEm).mono (Nat.le_refl _) hw3s, (HO.out.2.1.ext hEm).mono (Nat.le_refl _) hw3s, (HO.out.2.2.1.ext hEm).mono (Nat.le_refl _) hw3s, (HO.out.2.2.2.1.ext hEm).mono (Nat.le_refl _) hw3s, (HO.out.2.2.2.2.1.ext hEm).mono (Nat.le_refl _) hw3s, (HO.out.2.2.2.2.2.ext hEm).mono (Nat.le_refl _) hw3s⟩)
  replace H0 := Lib.hid (hEm.blk H0.out)
  replace H1 := Lib.hid (hEm.blk H1.out)
  replace H3 := Lib.hid (hEm.blk H3.out)
  have hE3 := hE2.trans hEm
  have HGT := Lib.hid (own_blk hrow0 (q := gi) rfl).2
  have HGI := Lib.hid hgi
  clear hm hgi hb3 hgrow3 hEm hE2 p9 hw3s
  go_loopw [5] (fun ii wr => ∃ (i : Nat) (fs : List Fr) (rest : List Value), i ≤ m ∧ ii = .int .i64 i ∧ Hid (fs.length = i) ∧ wr.ownsRow (w.heap.size + 2) 32 3 (.slice (some ⟨gi, 0, none⟩) m m) m (fs.flatMap c3 ++ rest) ∧ Hid (∀ (j : Nat) (f : Fr), fs[j]? = some f → ElS (w.heap.size + 2) l wr j f) ∧ Exc (fun k _ => k = gi) w3 wr) (fun ii _ => m - (intOf ii).toNat)
  case atStart => exact ⟨0, [], xs0, Nat.zero_le _, rfl, Lib.hid rfl, hrow0, Lib.hid (fun j f h => by simp at h), exc_refl _ _⟩
  case round =>
    clear hrow0
    obtain ⟨i, fs, rest, hi, rfl, HFL, hrow, HEL, hx⟩ := hrel
    have hb0 := hx.blk H0.out (by omega)
    have p9 := cell_of_row wr w.heap.size 9 _ _ _ hb0
    simp at p9
    have hEr : Ext w wr := hx.to_ext hE3 (fun k o hk => by omega)
    have hws := hEr.size
    have hgl : gi < wr.heap.size := (World.ownsRow.lt hrow gi rfl).2
    by_cases hlt : i < m
    · have hki : (i : Int) < (m : Int) := by omega
      by_cases hil : i < l.length
      · have hkl : (i : Int) < (l.length : Int) := by omega
        obtain ⟨g, of, rfl, hrd⟩ := sl.rd (by omega)
        obtain ⟨f, hf⟩ : ∃ f, l[i]? = some f := ⟨_, List.getElem?_eq_getElem hil⟩
        have k1 := (hrd i f hf).ext hEr
        obtain ⟨hl1, hl2⟩ := sl.ls f (List.mem_of_getElem? hf)
        have HF := Lib.hid hf
        obtain ⟨flA, flc, flo, fhA, fhc, fhi, fop⟩ := f
        have y0 := k1.c0
        have y1 := k1.c1
        have y2 := k1.c2
        dsimp only at y0 y1 y2 hl1 hl2
        clear hf hrd k1
        go_wp2_with fail
        refine (spareRange_any (op := fop) (hl1.ext hEr) (hl2.ext hEr)).mono ?_
        rintro e w4 ⟨A7, c7, A8, c8, rfl, o7, o8, hE4⟩
        have hrow4 := own_ext hrow hE4
        have hE4s := hE4.size
        go_wp2_with (refine wpList_store_own (k := i) rfl 32 _ _ rfl gi m m (c3 ⟨A7, c7, flo, A8, c8, fhi, fop⟩) rfl rfl hrow4 hlt rfl (by kernel_rfl) (by simp [Value.oneCell']) ?_; intro w5 hrow5 hg5)
        have hx5 : Exc (fun k _ => k = gi) wr w5 := (Exc.of_ext hE4).trans (Exc.of_only hg5 (fun _ _ => rfl))
        have hxR : Exc (fun k o => ∃ cs fr, o = Obj.cells cs 32 fr) w4 w5 := Exc.of_only hg5 (fun o ho => by obtain ⟨_, cs, hc⟩ := own_blk hrow4 rfl; rw [hc] at ho; injection ho with ho; exact ⟨_, _, ho.symm⟩)
        rw [flat_next HFL.out] at hrow5
        have HEL5 := Lib.hid (show ∀ (j : Nat) (f : Fr), (fs ++ [(⟨A7, c7, flo, A8, c8, fhi, fop⟩ : Fr)])[j]? = some f → ElS (w.heap.size + 2) l w5 j f from fun j f hj => by
          rcases Nat.lt_or_ge j i with h9 | h9
          · rw [List.getElem?_append_left (by rw [HFL.out]; exact h9)] at hj
            exact ((HEL.out j f hj).exc (D := fun k o => ∃ cs fr, o = Obj.cells cs 32 fr) (Exc.of_ext hE4) not8R).exc hxR not8R
          · rw [List.getElem?_append_right (by rw [HFL.out]; exact h9), HFL.out] at hj
            obtain rfl : j = i := by
              have := (List.getElem?_eq_some_iff.1 hj).1
              simp at this
              omega
            rw [Nat.sub_self] at hj
            simp only [List.getElem?_cons_zero, Option.some.injEq] at hj
            subst hj
            refine ⟨fun t ht => ?_, fun h8 => absurd hil (by omega)⟩
            rw [HF.out] at ht
            injection ht with ht
            subst ht
            exact ⟨rfl, (o7.exc hxR not8R).mono (by omega) hxR.size, (o8.exc hxR not8R).mono (by omega) hxR.size⟩)
        have HFL5 := Lib.hid (show (fs ++ [(⟨A7, c7, flo, A8, c8, fhi, fop⟩ : Fr)]).length = i + 1 by rw [List.length_append, HFL.out]; rfl)
        have hx6 := hx.trans hx5
        clear hxR hrow4 hg5 o7 o8 hE4 hE4s HEL hrow hx hx5
        go_wp2
        go_roundw
        case rel => exact ⟨i + 1, _, _, by omega, by go_num, HFL5, hrow5, HEL5, hx6⟩
        case measure => simp [intOf]; omega
      · have hkl : ¬ (i : Int) < (l.length : Int) := by omega
        have hkg : (l.length : Int) ≤ (i : Int) := by omega
        go_wp2_with (refine wpList_store_own (k := i) rfl 32 _ _ rfl gi m m (c3 ⟨some ⟨wr.heap.size, 0, none⟩, 2, [b8 (i : Int), 200], none, 0, [], true⟩) rfl rfl (World.ownsRow.alloc hrow _) hlt rfl (by kernel_rfl) (by simp [Value.oneCell']) ?_; intro w5 hrow5 hg5)
        have hb5 := blk_other (heap_alloc_new wr _) hg5 (by omega)
        have hbk : Blk 5 w5 wr.heap.size [b8 (i : Int), 200] := by
          unfold Blk
          rw [hb5]
          simp [cells8, cell8, b8_toNat]
          omega
        have hgs5 := hg5.size
        have hlt5 : wr.heap.size < w5.heap.size := (Array.getElem?_eq_some_iff.1 hbk).1
        have hxa : Exc (fun k _ => k = gi) wr w5 := (Exc.of_ext (ext_alloc wr _)).trans (Exc.of_only hg5 (fun _ _ => rfl))
        have hxR := exc_rg hrow hgl hg5
        rw [flat_next HFL.out] at hrow5
        have HEL5 := Lib.hid (show ∀ (j : Nat) (f : Fr), (fs ++ [(⟨some ⟨wr.heap.size, 0, none⟩, 2, [b8 (i : Int), 200], none, 0, [], true⟩ : Fr)])[j]? = some f → ElS (w.heap.size + 2) l w5 j f from fun j f hj => by
          rcases Nat.lt_or_ge j i with h9 | h9
          · rw [List.getElem?_append_left (by rw [HFL.out]; exact h9)] at hj
            exact (HEL.out j f hj).exc hxR not8R
          · rw [List.getElem?_append_right (by rw [HFL.out]; exact h9), HFL.out] at hj
            obtain rfl : j = i := by
              have := (List.getElem?_eq_some_iff.1 hj).1
              simp at this
              omega
            rw [Nat.sub_self] at hj
            simp only [List.getElem?_cons_zero, Option.some.injEq] at hj
            subst hj
            refine ⟨fun t ht => absurd (List.getElem?_eq_some_iff.1 ht).1 hil, fun h8 => ⟨rfl, rfl, rfl, rfl, rfl, rfl, wr.heap.size, rfl, by omega, hlt5, hbk⟩⟩)
        have HFL5 := Lib.hid (show (fs ++ [(⟨some ⟨wr.heap.size, 0, none⟩, 2, [b8 (i : Int), 200], none, 0, [], true⟩ : Fr)]).length = i + 1 by rw [List.length_append, HFL.out]; rfl)
        have hx6 := hx.trans hxa
        clear hxR hxa hb5 hbk hg5 HEL hrow hx
        go_wp2
        go_roundw
        case rel => exact ⟨i + 1, _, _, by omega, by go_num, HFL5, hrow5, HEL5, hx6⟩
        case measure => simp [intOf]; omega
    · obtain rfl : i = m := by omega
      have hrl : rest = [] := by
        have h1 := hrow.1
        rw [List.length_append, len_flat, HFL.out] at h1
        exact List.eq_nil_of_length_eq_zero (by omega)
      subst hrl
      rw [List.append_nil] at hrow
      have hwh := own_whole hrow
      have HW := Lib.hid hwh
      have hb3 := hx.blk H3.out (by omega)
      have hb1 := hx.blk H1.out (by omega)
      have hxR : Exc (fun k o => (∃ cs fr, o = Obj.cells cs 32 fr) ∨ ∃ cs fr, o = Obj.cells cs 47 fr) w3 wr := hx.weaken (fun k o ho hk => by
        obtain ⟨cs, hc⟩ := HGT.out
        rw [show k = gi from hk, hc] at ho
        injection ho with ho
        exact .inl ⟨_, _, ho.symm⟩)
      have d0 := cell_of_row wr g3 0 _ _ _ hb3
      have d1 := cell_of_row wr g3 1 _ _ _ hb3
      have d2 := cell_of_row wr g3 2 _ _ _ hb3
      have d3 := cell_of_row wr g3 3 _ _ _ hb3
      have d4 := cell_of_row wr g3 4 _ _ _ hb3
      have d5 := cell_of_row wr g3 5 _ _ _ hb3
      have d6 := cell_of_row wr g3 6 _ _ _ hb3
      have d7 := cell_of_row wr g3 7 _ _ _ hb3
      have d8 := cell_of_row wr g3 8 _ _ _ hb3
      have d9 := cell_of_row wr g3 9 _ _ _ hb3
      simp at d0 d1 d2 d3 d4 d5 d6 d7 d8 d9
      have f9 := frozen_of_row wr g3 9 _ _ hb3
      have hne : ¬ w.heap.size + 1 = g3 := by omega
      have hlc : ¬ i < l.length := by omega
      have hk8 : wr.grownBy (wr.setCell ⟨g3, 9, none⟩ (.slice (some ⟨gi, 0, none⟩) l.length i)) (some g3) := ⟨rfl, rfl, rfl, by simp, fun k _ hk => heap_setCell_other wr ⟨g3, 9, none⟩ k _ (fun e => hk (by simp [e]))⟩
      have hbz := blk_other hb1 hk8 (by omega)
      have hw8 := blk_other hwh hk8 (by omega)
      have hx8 : Exc (fun k o => (∃ cs fr, o = Obj.cells cs 32 fr) ∨ ∃ cs fr, o = Obj.cells cs 47 fr) w3 _ := hxR.trans (Exc.of_only hk8 (fun o ho => by rw [hb3] at ho; injection ho with ho; exact .inr ⟨_, _, ho.symm⟩))
      have hE8 := ext_store (p := ⟨g3, 9, none⟩) hEr (by show w.heap.size ≤ g3; omega) (.slice (some ⟨gi, 0, none⟩) l.length i)
      have HBZ := Lib.hid hbz
      have hxw : Exc (fun k o => (∃ cs fr, o = Obj.cells cs 32 fr) ∨ ∃ cs fr, o = Obj.cells cs 47 fr) wr _ := Exc.of_only hk8 (fun o ho => by rw [hb3] at ho; injection ho with ho; exact .inr ⟨_, _, ho.symm⟩)
      have HX8 := Lib.hid (show _ ∧ _ ∧ _ ∧ _ from ⟨hx8, hE8, hw8, hxw⟩)
      clear hxw hk8 hbz hw8 hx8 hE8 hb1 hb3 hwh hxR hx hrow hb0
      go_wp2_with (refine wpList_store_box rfl 47 _ _ rfl (w.heap.size + 1) _ rfl rfl 47 _ HBZ.out (by kernel_rfl) rfl (by simp [Value.oneCell']) ?_; intro w9 hb9 hg9)
      obtain ⟨hx8, hE8, hw8, hxw⟩ := HX8.out
      have hE9 := ext_only hE8 hg9 (Nat.le_succ _)
      have hxb : Exc (fun k o => (∃ cs fr, o = Obj.cells cs 32 fr) ∨ ∃ cs fr, o = Obj.cells cs 47 fr) _ w9 := Exc.of_only hg9 (fun o ho => by rw [HBZ.out] at ho; injection ho with ho; exact .inr ⟨_, _, ho.symm⟩)
      have hx9 := hx8.trans hxb
      have hw9 := blk_other hw8 hg9 (by omega)
      have hfl : l.length ≤ fs.length := by rw [HFL.out]; exact hlm
      have hgl9 : gi < w9.heap.size := (Array.getElem?_eq_some_iff.1 hw9).1
      have HEL9 : ∀ (j : Nat) (f : Fr), fs[j]? = some f → ElS (w.heap.size + 2) l w9 j f := fun j f hf => ((HEL.out j f hf).exc hxw not8RO).exc hxb not8RO
      have hz2 : w.heap.size ≤ w.heap.size + 2 := by omega
      have HF := Lib.hid (show OpS w.heap.size w9.heap.size w9 ⟨kd, A1, c1, a, A2, c2, b, ⟨A3, c3', rlo, A4, c4, rhi, rop⟩, ⟨A5, c5, slo, A6, c6, shi, sop⟩, some ⟨gi, 0, none⟩, i, fs.take l.length⟩ from by
        refine ⟨(HO.out.1.exc hx9 not8RO).mono hz2 hx9.size, (HO.out.2.1.exc hx9 not8RO).mono hz2 hx9.size, (HO.out.2.2.1.exc hx9 not8RO).mono hz2 hx9.size, (HO.out.2.2.2.1.exc hx9 not8RO).mono hz2 hx9.size, (HO.out.2.2.2.2.1.exc hx9 not8RO).mono hz2 hx9.size, (HO.out.2.2.2.2.2.exc hx9 not8RO).mono hz2 hx9.size, fun f hf => ⟨(els_mem HEL9 f hf).1.mono hz2 (Nat.le_refl _), (els_mem HEL9 f hf).2.mono hz2 (Nat.le_refl _)⟩, gi, fs.drop l.length, rfl, ?_, by omega, hgl9, ?_, ?_, fun j t ht => (els_drop HEL9 hfl j t ht).low hz2⟩
        · show i = (fs.take l.length).length + 3
          rw [List.length_take, Nat.min_eq_left hfl]
          exact HM.out.symm
        · show w9.heap[gi]? = some (.cells ((fs.take l.length ++ fs.drop l.length).flatMap c3).toArray 32 (0, 0))
          rw [List.take_append_drop]
          exact hw9
        · rw [List.length_drop, HFL.out]
          have := HM.out
          omega)
      have HP := Lib.hid (els_take HEL9 hfl)
      have HLT := Lib.hid (show (fs.take l.length).length = l.length by rw [List.length_take, Nat.min_eq_left hfl])
      clear hx8 hE8 hw8 hxw hxb hx9 hw9 HEL9 d0 d1 d2 d3 d4 d5 d6 d7 d8 d9
      go_wp2
      refine bodyPost_ret (results_cell_row rfl _ _ _ _ _ _ _ rfl hb9 Try.underlying47 rfl (by kernel_rfl)) rfl ⟨⟨kd, A1, c1, a, A2, c2, b, ⟨A3, c3', rlo, A4, c4, rhi, rop⟩, ⟨A5, c5, slo, A6, c6, shi, sop⟩, some ⟨gi, 0, none⟩, i, fs.take l.length⟩, ?_, ?_, HF.out, hE9⟩
      · dsimp only [Opn.v]; rw [HLT.out]
      · dsimp only [Opn.p]; rw [HP.out]
end Go.Proofs.Ytijlaknfagpglaa
