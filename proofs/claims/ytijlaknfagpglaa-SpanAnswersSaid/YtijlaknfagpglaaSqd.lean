/- SpanAnswers: copied. No condition but sizes. -/
import Derived.Test.YtijlaknfagpglaaSqk
namespace Go.Proofs.Ytijlaknfagpglaa
open Go.RowKit Go.Proofs
set_option linter.unusedVariables false
set_option linter.unusedSimpArgs false
/-- Blocks of calls from B on. -/
def OpBlk (B : Nat) : Nat → Obj → Prop := fun k o => B ≤ k ∧ ∃ (cs : Array Value) (fr : Nat × Nat), o = .cells cs 47 fr
theorem OpBlk.not8 {B k : Nat} {cs : Array Value} {fr : Nat × Nat} : ¬ OpBlk B k (.cells cs 5 fr) := fun ⟨_, _, _, h⟩ => by injection h with _ h; exact absurd h (by decide)
theorem OpBlk.notLt {B k : Nat} {o : Obj} (hk : k < B) : ¬ OpBlk B k o := fun ⟨h, _⟩ => by omega
theorem SOwn.lastsOp {C B : Nat} (bs : List UInt8) (v : Value) : Lasts (Exk (OpBlk C)) (SOwn 5 B bs v) := fun w w' ⟨A, c, hv, ho⟩ hx => ⟨A, c, hv, ownsRow_exc8 ho hx.x (fun k cs _ => OpBlk.not8)⟩
/-- A range in lists of its own. -/
def CRg (B : Nat) (lo hi : List UInt8) (op : Bool) (v : Value) (w : World) : Prop := ∃ A c E d, v = .agg #[.slice A lo.length c, .slice E hi.length d, .bool op] ∧ Own 5 B w A c lo ∧ Own 5 B w E d hi
theorem CRg.exc {D : Nat → Obj → Prop} {B : Nat} {lo hi : List UInt8} {op : Bool} {v : Value} {w w' : World} (h : CRg B lo hi op v w) (hx : Exc D w w') (hd : ∀ k cs, B ≤ k → ¬ D k (.cells cs 5 (0, 0))) : CRg B lo hi op v w' := by
  obtain ⟨A, c, E, d, h1, h2, h3⟩ := h
  exact ⟨A, c, E, d, h1, ownsRow_exc8 h2 hx hd, ownsRow_exc8 h3 hx hd⟩
theorem CRg.lastsOp {C B : Nat} (lo hi : List UInt8) (op : Bool) (v : Value) : Lasts (Exk (OpBlk C)) (CRg B lo hi op v) := fun w w' h hx => h.exc hx.x (fun k cs _ => OpBlk.not8)
def OpCell (C : Nat) (v : Value) (w : World) : Prop := ∃ g, v = .pointer (some ⟨g, 0, none⟩) ∧ C ≤ g ∧ ∃ cs, w.heap[g]? = some (.cells cs 47 (0, 0)) ∧ cs.size = 10
theorem OpCell.lasts {D : Nat → Obj → Prop} (C : Nat) (v : Value) : Lasts (Exk D) (OpCell C v) := fun w w' ⟨g, h1, h2, cs, h3, h4⟩ hx => by
  obtain ⟨cs', h5, h6⟩ := hx.keep g cs _ h3
  exact ⟨g, h1, h2, cs', h5, h6.trans h4⟩
/-- A call stands in a box. -/
def OpAt (C : Nat) (cs : Array Value) (v : Value) (w : World) : Prop := ∃ g, v = .pointer (some ⟨g, 0, none⟩) ∧ C ≤ g ∧ w.heap[g]? = some (.cells cs 47 (0, 0))
theorem OpAt.ext {C : Nat} {cs : Array Value} {v : Value} {w w' : World} (h : OpAt C cs v w) (he : Ext w w') : OpAt C cs v w' := by
  obtain ⟨g, h1, h2, h3⟩ := h
  exact ⟨g, h1, h2, he.blk h3⟩
theorem ptrO_inj {g g' : Nat} (h : Value.pointer (some ⟨g, 0, none⟩) = Value.pointer (some ⟨g', 0, none⟩)) : g = g' := by
  injection h with h; injection h with h; injection h with h
def aggCells : Value → List Value
  | .agg cs => cs.toList
  | _ => []
def OpOut (C : Nat) (kd : Int) (va vb vr vs v : Value) (w : World) : Prop := OpAt C ([Value.int .i64 kd, va, vb] ++ aggCells vr ++ aggCells vs ++ [Value.slice none 0 0]).toArray v w
theorem OpOut.ext {C : Nat} {kd : Int} {va vb vr vs v : Value} {w w' : World} (h : OpOut C kd va vb vr vs v w) (he : Ext w w') : OpOut C kd va vb vr vs v w' := OpAt.ext h he
theorem own_kept9 {B g n k : Nat} {w w' : World} {e e' : TypeId} {v : Value} {xs : List Value} {cs : Array Value} {fr : Nat × Nat} (hg : w.heap[g]? = some (.cells cs e' fr)) (hne : e ≠ e') (k9 : w.grownBy w' (some g)) (h : w.ownsRow B e n v k xs) : w'.ownsRow B e n v k xs :=
  KeepR.of_grown k9 (fun gl e9 => by injection e9 with e9; subst e9; exact ⟨cs, e', fr, hg, hne⟩) v k xs h
/-- Blocks of calls and of ranges from B on. -/
def OrBlk (B : Nat) : Nat → Obj → Prop := fun k o => B ≤ k ∧ ∃ (cs : Array Value) (t : TypeId) (fr : Nat × Nat), o = .cells cs t fr ∧ (t = 47 ∨ t = 32)
theorem OrBlk.not8 {B k : Nat} {cs : Array Value} {fr : Nat × Nat} : ¬ OrBlk B k (.cells cs 5 fr) := fun ⟨_, _, _, _, h, h2⟩ => by
  injection h with _ h
  rcases h2 with h2 | h2 <;> (rw [← h] at h2; exact absurd h2 (by decide))
theorem OrBlk.notLt {B k : Nat} {o : Obj} (hk : k < B) : ¬ OrBlk B k o := fun ⟨h, _⟩ => by omega
theorem Exc.weaken {D D' : Nat → Obj → Prop} {w w' : World} (h : Exc D w w') (hd : ∀ k o, w.heap[k]? = some o → D k o → D' k o) : Exc D' w w' :=
  ⟨h.os, h.tape, h.output, h.size, fun k o hk hn => h.block k o hk (fun hD => hn (hd k o hk hD))⟩
theorem own_le {B : Nat} {w : World} {e : TypeId} {n N c : Nat} {A : Option Addr} {xs : List Value} (h : w.ownsRow B e n (.slice A N c) N xs) : N ≤ c ∧ c ≤ 9223372036854775807 := by
  rcases h.2 with ⟨hv, h0⟩ | ⟨g, cap, cur, hv, _, _, hle, hm, _⟩
  · injection hv with _ h1 h2
    subst h1 h2
    exact ⟨Nat.le_refl _, by omega⟩
  · injection hv with _ _ h2
    subst h2
    exact ⟨hle, by simpa [maxLen] using hm⟩
/-- The copy as far as it is made. -/
structure CpS (B g : Nat) (cs : List Value) (v : Value) (n : Nat) (fs : List Fr) (w : World) : Prop where
  box : w.heap[g]? = some (.cells (cs ++ [v]).toArray 47 (0, 0))
  row : w.ownsRow B 32 3 v n (fs.flatMap c3)
  ls : ∀ f ∈ fs, Own 5 B w f.lA f.lc f.lo ∧ Own 5 B w f.hA f.hc f.hi
theorem CpS.ext {B g : Nat} {cs : List Value} {v : Value} {n : Nat} {fs : List Fr} {w w' : World} (h : CpS B g cs v n fs w) (he : Ext w w') : CpS B g cs v n fs w' := ⟨he.blk h.box, own_ext h.row he, fun f hf => ⟨(h.ls f hf).1.ext he, (h.ls f hf).2.ext he⟩⟩
/-- The list of ranges of a copy, one longer, the box not yet. -/
def CpL (B g : Nat) (cs : List Value) (v0 : Value) (n : Nat) (fs : List Fr) (lo hi : List UInt8) (op : Bool) (u v : Value) (w : World) : Prop := ∃ A c lA lc hA hc, v = .slice A n c ∧ u = .agg #[.slice lA lo.length lc, .slice hA hi.length hc, .bool op] ∧ w.heap[g]? = some (.cells (cs ++ [v0]).toArray 47 (0, 0)) ∧ w.ownsRow B 32 3 v n ((fs ++ [(⟨lA, lc, lo, hA, hc, hi, op⟩ : Fr)]).flatMap c3) ∧ (∀ f ∈ fs ++ [(⟨lA, lc, lo, hA, hc, hi, op⟩ : Fr)], Own 5 B w f.lA f.lc f.lo ∧ Own 5 B w f.hA f.hc f.hi)
def CpE (B g : Nat) (cs : List Value) (n : Nat) (fs : List Fr) (lo hi : List UInt8) (op : Bool) (u v : Value) (w : World) : Prop := ∃ lA lc hA hc, u = .agg #[.slice lA lo.length lc, .slice hA hi.length hc, .bool op] ∧ CpS B g cs v n (fs ++ [(⟨lA, lc, lo, hA, hc, hi, op⟩ : Fr)]) w
theorem CpL.ext {B g : Nat} {cs : List Value} {v0 : Value} {n : Nat} {fs : List Fr} {lo hi : List UInt8} {op : Bool} {u v : Value} {w w' : World} (h : CpL B g cs v0 n fs lo hi op u v w) (he : Ext w w') : CpL B g cs v0 n fs lo hi op u v w' := by
  obtain ⟨A, c, lA, lc, hA, hc, h1, h2, h3, h4, h5⟩ := h
  exact ⟨A, c, lA, lc, hA, hc, h1, h2, he.blk h3, own_ext h4 he, fun f hf => ⟨(h5 f hf).1.ext he, (h5 f hf).2.ext he⟩⟩
theorem CpE.ext {B g : Nat} {cs : List Value} {n : Nat} {fs : List Fr} {lo hi : List UInt8} {op : Bool} {u v : Value} {w w' : World} (h : CpE B g cs n fs lo hi op u v w) (he : Ext w w') : CpE B g cs n fs lo hi op u v w' := by
  obtain ⟨lA, lc, hA, hc, h1, h2⟩ := h
  exact ⟨lA, lc, hA, hc, h1, h2.ext he⟩
/-- A literal of one range, laid. -/
def BuiltR (C : Nat) (u v : Value) (w : World) : Prop := ∃ h cs, v = .slice (some ⟨h, 0, none⟩) 1 1 ∧ C ≤ h ∧ u = .agg cs ∧ w.heap[h]? = some (.cells cs 32 (0, 0))
theorem BuiltR.lasts {D : Nat → Obj → Prop} {C : Nat} (hd : ∀ k o, D k o → k < C) (u v : Value) : Lasts (Exc D) (BuiltR C u v) := fun w w' ⟨h, cs, h1, h2, h3, h4⟩ hx => ⟨h, cs, h1, h2, h3, hx.blk h4 (fun e => by have := hd _ _ e; omega)⟩
theorem CRg.lasts {D : Nat → Obj → Prop} {C : Nat} (hd : ∀ k o, D k o → k < C) (lo hi : List UInt8) (op : Bool) (v : Value) : Lasts (Exc D) (CRg C lo hi op v) := fun w w' h hx => h.exc hx (fun k cs h1 h2 => by have := hd _ _ h2; omega)
theorem CRg.open_ {B : Nat} {lo hi : List UInt8} {op : Bool} {A E : Option Addr} {c d : Nat} {w : World} (h : CRg B lo hi op (.agg #[.slice A lo.length c, .slice E hi.length d, .bool op]) w) : Own 5 B w A c lo ∧ Own 5 B w E d hi := by
  obtain ⟨A', c', E', d', e, z1, z2⟩ := h
  injection e with e
  simp only [Array.mk.injEq, List.cons.injEq, Value.slice.injEq, true_and, and_true] at e
  obtain ⟨⟨e1, e2⟩, e3, e4⟩ := e
  subst e1 e2 e3 e4
  exact ⟨z1, z2⟩
set_option maxRecDepth 100000 in
set_option maxHeartbeats 4000000 in
theorem copied_any {w : World} {o : Opn} (h : OpR w o) : Calls Try.prog 39 #[o.v] w fun e w' => ∃ o2 : Opn, e = .returned o2.v ∧ o2.p = o.p ∧ OpR w' o2 ∧ Ext w w' := by
  obtain ⟨i0, hti, hz0, hz1, hz2⟩ := info_parts infoRg
  obtain ⟨kd, aA, ac, a, bA, bc, b, ⟨rlA, rlc, rlo, rhA, rhc, rhi, rop⟩, ⟨slA, slc, slo, shA, shc, shi, sop⟩, lA, lc, l⟩ := o
  obtain ⟨sa, sb, srl, srh, ssl, ssh, sl, hn, hle, hcap, za, zb, zrl, zrh, zsl, zsh, zl⟩ := h
  dsimp only [Opn.v] at sa sb srl srh ssl ssh sl hn hle hcap za zb zrl zrh zsl zsh zl ⊢
  have HZ := Lib.hid (show _ ∧ _ ∧ _ ∧ _ ∧ _ ∧ _ ∧ _ from ⟨za, zb, zrl, zrh, zsl, zsh, zl⟩)
  go_enter Try.func39, Try.ntmps39
  go_wp2
  refine wp_cut (fun W => Ext w W ∧ W.heap[w.heap.size]? = some (.cells #[.int .i64 kd, .slice aA a.length ac, .slice bA b.length bc, .slice rlA rlo.length rlc, .slice rhA rhi.length rhc, .bool rop, .slice slA slo.length slc, .slice shA shi.length shc, .bool sop, .slice lA l.length lc] 47) ∧ W.heap[w.heap.size + 1]? = some (.cells #[.int .i64 0, .slice none 0 0, .slice none 0 0, .slice none 0 0, .slice none 0 0, .bool false, .slice none 0 0, .slice none 0 0, .bool false, .slice none 0 0] 47)) ⟨(ext_alloc _ _).trans (ext_alloc _ _), heap_alloc2_old _ _ _, heap_alloc2_new _ _ _⟩ ?_
  rintro w1 ⟨hE, b0, b1⟩
  have H0 := Lib.hid b0
  have H1 := Lib.hid b1
  have hw1 : w.heap.size + 1 < w1.heap.size := (Array.getElem?_eq_some_iff.1 b1).1
  clear b0 b1
  refine wp_region_rg (Exk (OpBlk w1.heap.size)) (rel_exk _) (fun _ => True) [0, 1, 2, 3, 4, 5, 6, 7, 8, 9, 10, 11, 12, 13, 14, 15, 16] (fun i => match i with
    | 4 => some fun V => SOwn 5 w1.heap.size a
    | 7 => some fun V => SOwn 5 w1.heap.size b
    | 10 => some fun V => CRg w1.heap.size rlo rhi rop
    | 13 => some fun V => CRg w1.heap.size slo shi sop
    | 15 => some fun V => OpCell w1.heap.size
    | _ => none) (fun i => match i with
    | 16 => some fun V _ => OpOut w1.heap.size kd (V 4) (V 7) (V 10) (V 13) (V 15)
    | _ => none) (fun _ => false) (by kernel_rfl) (by kernel_rfl) (fun _ _ h he => trivial) trivial (fun W N hW hF0 hN => ?_)
  have hEW : Exk (OpBlk w1.heap.size) w1 W := Exk.of_ext hW
  have hX : ∀ w', Exk (OpBlk w1.heap.size) W w' → Ext w w' := fun w' h => (Exk.trans hEW h).x.to_ext hE (fun k _ hk => by have := hk.1; omega)
  have e0 : ∀ w', Exk (OpBlk w1.heap.size) w1 w' → w'.cell? ⟨w.heap.size, 0, none⟩ = some (.int .i64 kd) := fun w' h => cell_of_row _ _ _ _ _ _ (h.x.blk H0.out (OpBlk.notLt (by omega)))
  have e1 : ∀ w', Exk (OpBlk w1.heap.size) w1 w' → w'.cell? ⟨w.heap.size, 1, none⟩ = some (.slice aA a.length ac) := fun w' h => cell_of_row _ _ _ _ _ _ (h.x.blk H0.out (OpBlk.notLt (by omega)))
  have e2 : ∀ w', Exk (OpBlk w1.heap.size) w1 w' → w'.cell? ⟨w.heap.size, 2, none⟩ = some (.slice bA b.length bc) := fun w' h => cell_of_row _ _ _ _ _ _ (h.x.blk H0.out (OpBlk.notLt (by omega)))
  have e3 : ∀ w', Exk (OpBlk w1.heap.size) w1 w' → w'.cell? ⟨w.heap.size, 3, none⟩ = some (.slice rlA rlo.length rlc) := fun w' h => cell_of_row _ _ _ _ _ _ (h.x.blk H0.out (OpBlk.notLt (by omega)))
  have e4 : ∀ w', Exk (OpBlk w1.heap.size) w1 w' → w'.cell? ⟨w.heap.size, 4, none⟩ = some (.slice rhA rhi.length rhc) := fun w' h => cell_of_row _ _ _ _ _ _ (h.x.blk H0.out (OpBlk.notLt (by omega)))
  have e5 : ∀ w', Exk (OpBlk w1.heap.size) w1 w' → w'.cell? ⟨w.heap.size, 5, none⟩ = some (.bool rop) := fun w' h => cell_of_row _ _ _ _ _ _ (h.x.blk H0.out (OpBlk.notLt (by omega)))
  have e6 : ∀ w', Exk (OpBlk w1.heap.size) w1 w' → w'.cell? ⟨w.heap.size, 6, none⟩ = some (.slice slA slo.length slc) := fun w' h => cell_of_row _ _ _ _ _ _ (h.x.blk H0.out (OpBlk.notLt (by omega)))
  have e7 : ∀ w', Exk (OpBlk w1.heap.size) w1 w' → w'.cell? ⟨w.heap.size, 7, none⟩ = some (.slice shA shi.length shc) := fun w' h => cell_of_row _ _ _ _ _ _ (h.x.blk H0.out (OpBlk.notLt (by omega)))
  have e8 : ∀ w', Exk (OpBlk w1.heap.size) w1 w' → w'.cell? ⟨w.heap.size, 8, none⟩ = some (.bool sop) := fun w' h => cell_of_row _ _ _ _ _ _ (h.x.blk H0.out (OpBlk.notLt (by omega)))
  repeat (first | (apply wpR_one; (case ho => (simp only [List.getElem?_toArray, List.getElem?_cons_succ, List.getElem?_cons_zero]; try exact rfl)); (case hw => rfl); (case hl => rfl); (case hsp => rfl); (case he => rfl); (case hv => (intro w' hw'; (try (have hw2 := Ext.trans hEW hw')); (try (have hw3 := Exc.trans hEW hw')); (try (have hw4 := Exk.trans hEW hw')); (try (have hw5 := Mrk.trans hEW hw')); go_simp; exact rfl)); (case hw0 => (first | exact Below.refl _ _ | exact Exc.of_ext (Below.refl _ _) | exact Exk.of_ext (Below.refl _ _) | exact Mrk.of_ext (Below.refl _ _))); simp only [Act.put, List.setIfInBounds_toArray, List.set_cons_succ, List.set_cons_zero]) | (apply wpR_early; (case ho => (simp only [List.getElem?_toArray, List.getElem?_cons_succ, List.getElem?_cons_zero]; try exact rfl)); (case hw => rfl); (case hl => rfl); (case hsp => rfl); (case he => rfl); (case hv => (intro w' hw'; (try have hw2 := Ext.trans hEW hw'); go_simp; exact rfl)); simp only [Act.put, List.setIfInBounds_toArray, List.set_cons_succ, List.set_cons_zero]) | (apply wpR_pass; (case ho => (simp only [List.getElem?_toArray, List.getElem?_cons_succ, List.getElem?_cons_zero]; try exact rfl)); (case hw => rfl); (case hl => rfl); simp only [Act.put, List.setIfInBounds_toArray, List.set_cons_succ, List.set_cons_zero]))
  refine wpR_new (by ((simp only [List.getElem?_toArray, List.getElem?_cons_succ, List.getElem?_cons_zero]; try exact rfl))) _ rfl rfl rfl (fun V v => SOwn.lastsOp _ _) (fun V V' h => rfl) (fun w' hw' hK => ?_) (fun v hv => ?_)
  · have HX := Lib.hid (hX w' hw')
    have hs := (hEW.trans hw').x.size
    clear hK
    unfold opAt; go_simp; refine upAt_enter ?_
    refine (cpy_any (sa.ext HX.out) rfl).mono ?_
    rintro e w9 ⟨A, c, rfl, ho, hE9⟩
    exact ⟨_, rfl, hE9, A, c, rfl, ho.mono hs⟩
  obtain ⟨A1, c1, rfl⟩ : ∃ A c, v = .slice A a.length c := by
    obtain ⟨_, _, _, A, c, h, _⟩ := hv
    exact ⟨A, c, h⟩
  clear hv
  simp only [Act.put, List.setIfInBounds_toArray, List.set_cons_succ, List.set_cons_zero]
  repeat (first | (apply wpR_one; (case ho => (simp only [List.getElem?_toArray, List.getElem?_cons_succ, List.getElem?_cons_zero]; try exact rfl)); (case hw => rfl); (case hl => rfl); (case hsp => rfl); (case he => rfl); (case hv => (intro w' hw'; (try (have hw2 := Ext.trans hEW hw')); (try (have hw3 := Exc.trans hEW hw')); (try (have hw4 := Exk.trans hEW hw')); (try (have hw5 := Mrk.trans hEW hw')); go_simp; exact rfl)); (case hw0 => (first | exact Below.refl _ _ | exact Exc.of_ext (Below.refl _ _) | exact Exk.of_ext (Below.refl _ _) | exact Mrk.of_ext (Below.refl _ _))); simp only [Act.put, List.setIfInBounds_toArray, List.set_cons_succ, List.set_cons_zero]) | (apply wpR_early; (case ho => (simp only [List.getElem?_toArray, List.getElem?_cons_succ, List.getElem?_cons_zero]; try exact rfl)); (case hw => rfl); (case hl => rfl); (case hsp => rfl); (case he => rfl); (case hv => (intro w' hw'; (try have hw2 := Ext.trans hEW hw'); go_simp; exact rfl)); simp only [Act.put, List.setIfInBounds_toArray, List.set_cons_succ, List.set_cons_zero]) | (apply wpR_pass; (case ho => (simp only [List.getElem?_toArray, List.getElem?_cons_succ, List.getElem?_cons_zero]; try exact rfl)); (case hw => rfl); (case hl => rfl); simp only [Act.put, List.setIfInBounds_toArray, List.set_cons_succ, List.set_cons_zero]))
  refine wpR_new (by ((simp only [List.getElem?_toArray, List.getElem?_cons_succ, List.getElem?_cons_zero]; try exact rfl))) _ rfl rfl rfl (fun V v => SOwn.lastsOp _ _) (fun V V' h => rfl) (fun w' hw' hK => ?_) (fun v hv => ?_)
  · have HX := Lib.hid (hX w' hw')
    have hs := (hEW.trans hw').x.size
    clear hK
    unfold opAt; go_simp; refine upAt_enter ?_
    refine (cpy_any (sb.ext HX.out) rfl).mono ?_
    rintro e w9 ⟨A, c, rfl, ho, hE9⟩
    exact ⟨_, rfl, hE9, A, c, rfl, ho.mono hs⟩
  obtain ⟨A2, c2, rfl⟩ : ∃ A c, v = .slice A b.length c := by
    obtain ⟨_, _, _, A, c, h, _⟩ := hv
    exact ⟨A, c, h⟩
  clear hv
  simp only [Act.put, List.setIfInBounds_toArray, List.set_cons_succ, List.set_cons_zero]
  repeat (first | (apply wpR_one; (case ho => (simp only [List.getElem?_toArray, List.getElem?_cons_succ, List.getElem?_cons_zero]; try exact rfl)); (case hw => rfl); (case hl => rfl); (case hsp => rfl); (case he => rfl); (case hv => (intro w' hw'; (try (have hw2 := Ext.trans hEW hw')); (try (have hw3 := Exc.trans hEW hw')); (try (have hw4 := Exk.trans hEW hw')); (try (have hw5 := Mrk.trans hEW hw')); go_simp; exact rfl)); (case hw0 => (first | exact Below.refl _ _ | exact Exc.of_ext (Below.refl _ _) | exact Exk.of_ext (Below.refl _ _) | exact Mrk.of_ext (Below.refl _ _))); simp only [Act.put, List.setIfInBounds_toArray, List.set_cons_succ, List.set_cons_zero]) | (apply wpR_early; (case ho => (simp only [List.getElem?_toArray, List.getElem?_cons_succ, List.getElem?_cons_zero]; try exact rfl)); (case hw => rfl); (case hl => rfl); (case hsp => rfl); (case he => rfl); (case hv => (intro w' hw'; (try have hw2 := Ext.trans hEW hw'); go_simp; exact rfl)); simp only [Act.put, List.setIfInBounds_toArray, List.set_cons_succ, List.set_cons_zero]) | (apply wpR_pass; (case ho => (simp only [List.getElem?_toArray, List.getElem?_cons_succ, List.getElem?_cons_zero]; try exact rfl)); (case hw => rfl); (case hl => rfl); simp only [Act.put, List.setIfInBounds_toArray, List.set_cons_succ, List.set_cons_zero]))
  refine wpR_new (by ((simp only [List.getElem?_toArray, List.getElem?_cons_succ, List.getElem?_cons_zero]; try exact rfl))) _ rfl rfl rfl (fun V v => CRg.lastsOp _ _ _ _) (fun V V' h => rfl) (fun w' hw' hK => ?_) (fun v hv => ?_)
  · have HX := Lib.hid (hX w' hw')
    have hs := (hEW.trans hw').x.size
    clear hK
    unfold opAt; go_simp; refine upAt_enter ?_
    refine (copyRange_any (op := rop) (srl.ext HX.out) (srh.ext HX.out)).mono ?_
    rintro e w9 ⟨A, c, E, d, rfl, ho, ho2, hE9⟩
    exact ⟨_, rfl, hE9, A, c, E, d, rfl, ho.mono hs, ho2.mono hs⟩
  obtain ⟨A3, c3', A4, c4, rfl⟩ : ∃ A c E d, v = .agg #[.slice A rlo.length c, .slice E rhi.length d, .bool rop] := by
    obtain ⟨_, _, _, A, c, E, d, h, _⟩ := hv
    exact ⟨A, c, E, d, h⟩
  clear hv
  simp only [Act.put, List.setIfInBounds_toArray, List.set_cons_succ, List.set_cons_zero]
  repeat (first | (apply wpR_one; (case ho => (simp only [List.getElem?_toArray, List.getElem?_cons_succ, List.getElem?_cons_zero]; try exact rfl)); (case hw => rfl); (case hl => rfl); (case hsp => rfl); (case he => rfl); (case hv => (intro w' hw'; (try (have hw2 := Ext.trans hEW hw')); (try (have hw3 := Exc.trans hEW hw')); (try (have hw4 := Exk.trans hEW hw')); (try (have hw5 := Mrk.trans hEW hw')); go_simp; exact rfl)); (case hw0 => (first | exact Below.refl _ _ | exact Exc.of_ext (Below.refl _ _) | exact Exk.of_ext (Below.refl _ _) | exact Mrk.of_ext (Below.refl _ _))); simp only [Act.put, List.setIfInBounds_toArray, List.set_cons_succ, List.set_cons_zero]) | (apply wpR_early; (case ho => (simp only [List.getElem?_toArray, List.getElem?_cons_succ, List.getElem?_cons_zero]; try exact rfl)); (case hw => rfl); (case hl => rfl); (case hsp => rfl); (case he => rfl); (case hv => (intro w' hw'; (try have hw2 := Ext.trans hEW hw'); go_simp; exact rfl)); simp only [Act.put, List.setIfInBounds_toArray, List.set_cons_succ, List.set_cons_zero]) | (apply wpR_pass; (case ho => (simp only [List.getElem?_toArray, List.getElem?_cons_succ, List.getElem?_cons_zero]; try exact rfl)); (case hw => rfl); (case hl => rfl); simp only [Act.put, List.setIfInBounds_toArray, List.set_cons_succ, List.set_cons_zero]))
  refine wpR_new (by ((simp only [List.getElem?_toArray, List.getElem?_cons_succ, List.getElem?_cons_zero]; try exact rfl))) _ rfl rfl rfl (fun V v => CRg.lastsOp _ _ _ _) (fun V V' h => rfl) (fun w' hw' hK => ?_) (fun v hv => ?_)
  · have HX := Lib.hid (hX w' hw')
    have hs := (hEW.trans hw').x.size
    clear hK
    unfold opAt; go_simp; refine upAt_enter ?_
    refine (copyRange_any (op := sop) (ssl.ext HX.out) (ssh.ext HX.out)).mono ?_
    rintro e w9 ⟨A, c, E, d, rfl, ho, ho2, hE9⟩
    exact ⟨_, rfl, hE9, A, c, E, d, rfl, ho.mono hs, ho2.mono hs⟩
  obtain ⟨A5, c5, A6, c6, rfl⟩ : ∃ A c E d, v = .agg #[.slice A slo.length c, .slice E shi.length d, .bool sop] := by
    obtain ⟨_, _, _, A, c, E, d, h, _⟩ := hv
    exact ⟨A, c, E, d, h⟩
  clear hv
  simp only [Act.put, List.setIfInBounds_toArray, List.set_cons_succ, List.set_cons_zero]
  repeat (first | (apply wpR_one; (case ho => (simp only [List.getElem?_toArray, List.getElem?_cons_succ, List.getElem?_cons_zero]; try exact rfl)); (case hw => rfl); (case hl => rfl); (case hsp => rfl); (case he => rfl); (case hv => (intro w' hw'; (try (have hw2 := Ext.trans hEW hw')); (try (have hw3 := Exc.trans hEW hw')); (try (have hw4 := Exk.trans hEW hw')); (try (have hw5 := Mrk.trans hEW hw')); go_simp; exact rfl)); (case hw0 => (first | exact Below.refl _ _ | exact Exc.of_ext (Below.refl _ _) | exact Exk.of_ext (Below.refl _ _) | exact Mrk.of_ext (Below.refl _ _))); simp only [Act.put, List.setIfInBounds_toArray, List.set_cons_succ, List.set_cons_zero]) | (apply wpR_early; (case ho => (simp only [List.getElem?_toArray, List.getElem?_cons_succ, List.getElem?_cons_zero]; try exact rfl)); (case hw => rfl); (case hl => rfl); (case hsp => rfl); (case he => rfl); (case hv => (intro w' hw'; (try have hw2 := Ext.trans hEW hw'); go_simp; exact rfl)); simp only [Act.put, List.setIfInBounds_toArray, List.set_cons_succ, List.set_cons_zero]) | (apply wpR_pass; (case ho => (simp only [List.getElem?_toArray, List.getElem?_cons_succ, List.getElem?_cons_zero]; try exact rfl)); (case hw => rfl); (case hl => rfl); simp only [Act.put, List.setIfInBounds_toArray, List.set_cons_succ, List.set_cons_zero]))
  refine wpR_alloc (by ((simp only [List.getElem?_toArray, List.getElem?_cons_succ, List.getElem?_cons_zero]; try exact rfl))) _ rfl rfl rfl (fun V v => OpCell.lasts _ _) (fun V V' h => rfl) (fun w' hw' hK => ?_) (fun v hv => ?_)
  · have hXs := (hEW.trans hw').x.size
    unfold opAt
    go_simp
    exact upAt_value ⟨ext_alloc _ _, ⟨_, rfl, hXs, _, heap_alloc_new _ _, rfl⟩, fun _ g hg => by injection hg with hg; exact ⟨hg.symm, by simp⟩⟩
  obtain ⟨g3, rfl⟩ : ∃ g, v = .pointer (some ⟨g, 0, none⟩) := by
    obtain ⟨_, _, _, g, e, _⟩ := hv
    exact ⟨g, e⟩
  clear hv
  simp only [Act.put, List.setIfInBounds_toArray, List.set_cons_succ, List.set_cons_zero]
  refine wpR_late (by ((simp only [List.getElem?_toArray, List.getElem?_cons_succ, List.getElem?_cons_zero]; try exact rfl))) _ rfl rfl (fun V v w' w2 h he => OpOut.ext h he) (fun V V' h => by simp only [h 4 (by kernel_rfl), h 7 (by kernel_rfl), h 10 (by kernel_rfl), h 13 (by kernel_rfl), h 15 (by kernel_rfl)]) (fun w' hw' hK hF => ?_) (fun v hv => ?_)
  · obtain ⟨g, e8, hg8, cs, hb8, hs8⟩ := (hK 15 (by kernel_rfl)).2
    obtain rfl := ptrO_inj (show Value.pointer (some ⟨g3, 0, none⟩) = _ from e8)
    refine opAt_list rfl #[] (fun Q hQ => ?_)
    refine wpList_store_box rfl 47 _ _ rfl g3 _ rfl rfl 47 _ hb8 (by kernel_rfl) hs8 (by simp [Value.oneCell']) (fun w2 hb hg => ?_)
    exact hQ _ _ ⟨Exk.of_only hg hb8 hb (by rw [hs8]; rfl) ⟨hg8, _, _, rfl⟩, ⟨g3, rfl, hg8, hb⟩⟩
  clear hv
  apply wpR_nil
  apply hN
  intro w2 hE' hK hF
  have hx := (hEW.trans hE').x
  have k1 : SOwn 5 w1.heap.size a (.slice A1 a.length c1) w2 := (hK 4).2
  have k2 : SOwn 5 w1.heap.size b (.slice A2 b.length c2) w2 := (hK 7).2
  have k3 : CRg w1.heap.size rlo rhi rop (.agg #[.slice A3 rlo.length c3', .slice A4 rhi.length c4, .bool rop]) w2 := (hK 10).2
  have k4 : CRg w1.heap.size slo shi sop (.agg #[.slice A5 slo.length c5, .slice A6 shi.length c6, .bool sop]) w2 := (hK 13).2
  have hF2 : OpOut w1.heap.size kd (.slice A1 a.length c1) (.slice A2 b.length c2) (.agg #[.slice A3 rlo.length c3', .slice A4 rhi.length c4, .bool rop]) (.agg #[.slice A5 slo.length c5, .slice A6 shi.length c6, .bool sop]) (.pointer (some ⟨g3, 0, none⟩)) w2 := hF
  obtain ⟨_, x1, x2, x3⟩ := hF2
  obtain rfl := ptrO_inj (show Value.pointer (some ⟨g3, 0, none⟩) = _ from x1)
  have h3 : w2.heap[g3]? = some (.cells #[.int .i64 kd, .slice A1 a.length c1, .slice A2 b.length c2, .slice A3 rlo.length c3', .slice A4 rhi.length c4, .bool rop, .slice A5 slo.length c5, .slice A6 shi.length c6, .bool sop, .slice none 0 0] 47) := x3
  have K3 : Own 5 w1.heap.size w2 A3 c3' rlo ∧ Own 5 w1.heap.size w2 A4 c4 rhi := by
    obtain ⟨A, c, E, d, e, z1, z2⟩ := k3
    injection e with e
    simp only [Array.mk.injEq, List.cons.injEq, Value.slice.injEq, true_and, and_true] at e
    obtain ⟨⟨e1, e2⟩, e3, e4⟩ := e
    subst e1 e2 e3 e4
    exact ⟨z1, z2⟩
  have K4 : Own 5 w1.heap.size w2 A5 c5 slo ∧ Own 5 w1.heap.size w2 A6 c6 shi := by
    obtain ⟨A, c, E, d, e, z1, z2⟩ := k4
    injection e with e
    simp only [Array.mk.injEq, List.cons.injEq, Value.slice.injEq, true_and, and_true] at e
    obtain ⟨⟨e1, e2⟩, e3, e4⟩ := e
    subst e1 e2 e3 e4
    exact ⟨z1, z2⟩
  have HO := Lib.hid (show Own 5 (w.heap.size + 2) w2 A1 c1 a ∧ Own 5 (w.heap.size + 2) w2 A2 c2 b ∧ Own 5 (w.heap.size + 2) w2 A3 c3' rlo ∧ Own 5 (w.heap.size + 2) w2 A4 c4 rhi ∧ Own 5 (w.heap.size + 2) w2 A5 c5 slo ∧ Own 5 (w.heap.size + 2) w2 A6 c6 shi from
    ⟨Own.mono k1.own (by omega), Own.mono k2.own (by omega), K3.1.mono (by omega), K3.2.mono (by omega), K4.1.mono (by omega), K4.2.mono (by omega)⟩)
  have HS := Lib.hid (show CpS (w.heap.size + 2) g3 [.int .i64 kd, .slice A1 a.length c1, .slice A2 b.length c2, .slice A3 rlo.length c3', .slice A4 rhi.length c4, .bool rop, .slice A5 slo.length c5, .slice A6 shi.length c6, .bool sop] (.slice none 0 0) 0 [] w2 from ⟨h3, owned_nil _ _ _ _, fun f hf => (by cases hf)⟩)
  have hE2 := hX w2 hE'
  replace H0 := Lib.hid (hx.blk H0.out (OpBlk.notLt (by omega)))
  replace H1 := Lib.hid (hx.blk H1.out (OpBlk.notLt (by omega)))
  have hg3 : w.heap.size + 2 ≤ g3 := by omega
  have hw2 : w.heap.size + 2 ≤ w2.heap.size := by have := hx.size; omega
  clear hK hN k1 k2 k3 k4 K3 K4 x1 x2 x3 h3 hx hE hX hEW hE' hW hF0 e0 e1 e2 e3 e4 e5 e6 e7 e8 hF za zb zrl zrh zsl zsh zl
  go_wp2
  go_loopw [4] (fun ii wr => ∃ (i : Nat) (v : Value) (fs : List Fr), i ≤ l.length ∧ ii = .int .i64 i ∧ Hid (fs.length = i) ∧ Hid (fs.map rg = (l.take i).map rg) ∧ Hid (CpS (w.heap.size + 2) g3 [.int .i64 kd, .slice A1 a.length c1, .slice A2 b.length c2, .slice A3 rlo.length c3', .slice A4 rhi.length c4, .bool rop, .slice A5 slo.length c5, .slice A6 shi.length c6, .bool sop] v i fs wr) ∧ Exc (OrBlk (w.heap.size + 2)) w2 wr) (fun ii _ => l.length - (intOf ii).toNat)
  case atStart => exact ⟨0, _, [], Nat.zero_le _, rfl, Lib.hid rfl, Lib.hid rfl, HS, exc_refl _ _⟩
  case round =>
    clear HS
    obtain ⟨i, v, fs, hi, rfl, HFL, HMR, HS, hx⟩ := hrel
    obtain ⟨Av, cv, rfl⟩ := slice_of_own HS.out.row
    have hb0 := hx.blk H0.out (OrBlk.notLt (by omega))
    have hb1 := hx.blk H1.out (OrBlk.notLt (by omega))
    have p9 := cell_of_row wr w.heap.size 9 _ _ _ hb0
    simp at p9
    have hEr : Ext w wr := hx.to_ext hE2 (fun k o hk => by have := hk.1; omega)
    by_cases hlt : i < l.length
    · have hki : (i : Int) < (l.length : Int) := by omega
      obtain ⟨g, of, rfl, hrd⟩ := sl.rd (by omega)
      obtain ⟨f, hf⟩ : ∃ f, l[i]? = some f := ⟨_, List.getElem?_eq_getElem hlt⟩
      have k1 := hrd i f hf
      obtain ⟨hl1, hl2⟩ := sl.ls f (List.mem_of_getElem? hf)
      have HTK := Lib.hid (show (l.take (i + 1)).map rg = (l.take i).map rg ++ [rg f] by rw [List.take_add_one, hf]; simp)
      obtain ⟨flA, flc, flo, fhA, fhc, fhi, fop⟩ := f
      have y0' := k1.c0
      have y1' := k1.c1
      have y2' := k1.c2
      dsimp only at y0' y1' y2' hl1 hl2
      have hD : ∀ (k : Nat) (o : Obj), (k = g3 ∨ (Value.slice Av i cv).ownBlock = some k) → k < wr.heap.size := fun k _ hk => by
        rcases hk with hk | hk
        · subst hk; exact (Array.getElem?_eq_some_iff.1 HS.out.box).1
        · exact (HS.out.row.lt k hk).2
      have hDw : ∀ (k : Nat) (o : Obj), (k = g3 ∨ (Value.slice Av i cv).ownBlock = some k) → w.heap.size + 2 ≤ k := fun k _ hk => by
        rcases hk with hk | hk
        · omega
        · exact (HS.out.row.lt k hk).1
      have hDo : ∀ (k : Nat) (o : Obj), wr.heap[k]? = some o → (k = g3 ∨ (Value.slice Av i cv).ownBlock = some k) → OrBlk (w.heap.size + 2) k o := fun k o ho hk => by
        have h9 := hDw k o hk
        rcases hk with hk | hk
        · subst hk
          rw [HS.out.box] at ho
          injection ho with ho
          exact ⟨h9, _, _, _, ho.symm, .inl rfl⟩
        · obtain ⟨_, cs, hc⟩ := own_blk HS.out.row hk
          rw [hc] at ho
          injection ho with ho
          exact ⟨h9, _, _, _, ho.symm, .inr rfl⟩
      have hws := hEr.size
      have hwr2 : w.heap.size + 2 ≤ wr.heap.size := by have := hx.size; omega
      clear hf hrd k1
      go_wp2
      refine wp_region_rg (Exc (fun k _ => k = g3 ∨ (Value.slice Av i cv).ownBlock = some k)) (rel_exc _) (fun w' => CpS (w.heap.size + 2) g3 [.int .i64 kd, .slice A1 a.length c1, .slice A2 b.length c2, .slice A3 rlo.length c3', .slice A4 rhi.length c4, .bool rop, .slice A5 slo.length c5, .slice A6 shi.length c6, .bool sop] (.slice Av i cv) i fs w') [0, 1, 2, 3, 4, 5, 6, 7, 8, 9, 10, 11] (fun i => match i with
        | 7 => some fun V => CRg wr.heap.size flo fhi fop
        | 8 => some fun V => BuiltR wr.heap.size (V 7)
        | _ => none) (fun j => match j with
        | 9 => some fun V v w' => CpL (w.heap.size + 2) g3 [.int .i64 kd, .slice A1 a.length c1, .slice A2 b.length c2, .slice A3 rlo.length c3', .slice A4 rhi.length c4, .bool rop, .slice A5 slo.length c5, .slice A6 shi.length c6, .bool sop] (.slice Av i cv) (i + 1) fs flo fhi fop (V 7) v w'
        | 11 => some fun V _ w' => CpE (w.heap.size + 2) g3 [.int .i64 kd, .slice A1 a.length c1, .slice A2 b.length c2, .slice A3 rlo.length c3', .slice A4 rhi.length c4, .bool rop, .slice A5 slo.length c5, .slice A6 shi.length c6, .bool sop] (i + 1) fs flo fhi fop (V 7) (V 9) w'
        | _ => none) (fun i => i == 1) (by kernel_rfl) (by kernel_rfl) (fun _ _ h he => h.ext he) (HS.out.ext (ext_drew _)) (fun W N hW hF0 hN => ?_)
      have hEW : Exc (fun k _ => k = g3 ∨ (Value.slice Av i cv).ownBlock = some k) wr W := Exc.of_ext hW
      have hX : ∀ w', Exc (fun k _ => k = g3 ∨ (Value.slice Av i cv).ownBlock = some k) W w' → Exc (fun k _ => k = g3 ∨ (Value.slice Av i cv).ownBlock = some k) wr w' := fun w' h => hEW.trans h
      have hXE : ∀ w', Exc (fun k _ => k = g3 ∨ (Value.slice Av i cv).ownBlock = some k) W w' → Ext w w' := fun w' h => (hX w' h).to_ext hEr (fun k o hk => by have := hDw k o hk; omega)
      have e9 : ∀ w', Exc (fun k _ => k = g3 ∨ (Value.slice Av i cv).ownBlock = some k) W w' → w'.cell? ⟨w.heap.size, 9, none⟩ = some (.slice (some ⟨g, of, none⟩) l.length lc) := fun w' h => cell_of_row _ _ _ _ _ _ ((hX w' h).blk hb0 (fun e => by have := hDw _ (Obj.cells #[] 0) e; omega))
      have y0 : ∀ w', Exc (fun k _ => k = g3 ∨ (Value.slice Av i cv).ownBlock = some k) W w' → w'.cell? ⟨g, of + i * 3, none⟩ = some (.slice flA flo.length flc) := fun w' h => (hXE w' h).cell y0'
      have y1 : ∀ w', Exc (fun k _ => k = g3 ∨ (Value.slice Av i cv).ownBlock = some k) W w' → w'.cell? ⟨g, of + i * 3 + 1, none⟩ = some (.slice fhA fhi.length fhc) := fun w' h => (hXE w' h).cell y1'
      have y2 : ∀ w', Exc (fun k _ => k = g3 ∨ (Value.slice Av i cv).ownBlock = some k) W w' → w'.cell? ⟨g, of + i * 3 + 2, none⟩ = some (.bool fop) := fun w' h => (hXE w' h).cell y2'
      have q9 : ∀ w', Ext W w' → w'.cell? ⟨g3, 9, none⟩ = some (.slice Av i cv) := fun w' h => cell_of_row _ _ _ _ _ _ ((hW.trans h).blk HS.out.box)
      repeat (first | (apply wpR_one; (case ho => (simp only [List.getElem?_toArray, List.getElem?_cons_succ, List.getElem?_cons_zero]; try exact rfl)); (case hw => rfl); (case hl => rfl); (case hsp => rfl); (case he => rfl); (case hv => (intro w' hw'; (try (have hw2 := Ext.trans hEW hw')); (try (have hw3 := Exc.trans hEW hw')); (try (have hw4 := Exk.trans hEW hw')); (try (have hw5 := Mrk.trans hEW hw')); go_simp; exact rfl)); (case hw0 => (first | exact Below.refl _ _ | exact Exc.of_ext (Below.refl _ _) | exact Exk.of_ext (Below.refl _ _) | exact Mrk.of_ext (Below.refl _ _))); simp only [Act.put, List.setIfInBounds_toArray, List.set_cons_succ, List.set_cons_zero]) | (apply wpR_early; (case ho => (simp only [List.getElem?_toArray, List.getElem?_cons_succ, List.getElem?_cons_zero]; try exact rfl)); (case hw => rfl); (case hl => rfl); (case hsp => rfl); (case he => rfl); (case hv => (intro w' hw'; (try have hw2 := Ext.trans hEW hw'); go_simp; exact rfl)); simp only [Act.put, List.setIfInBounds_toArray, List.set_cons_succ, List.set_cons_zero]) | (apply wpR_pass; (case ho => (simp only [List.getElem?_toArray, List.getElem?_cons_succ, List.getElem?_cons_zero]; try exact rfl)); (case hw => rfl); (case hl => rfl); simp only [Act.put, List.setIfInBounds_toArray, List.set_cons_succ, List.set_cons_zero]))
      refine wpR_new (by ((simp only [List.getElem?_toArray, List.getElem?_cons_succ, List.getElem?_cons_zero]; try exact rfl))) _ rfl rfl rfl (fun V v => CRg.lasts hD _ _ _ _) (fun V V' h => rfl) (fun w' hw' hK => ?_) (fun v hv => ?_)
      · have HX := Lib.hid (hXE w' hw')
        have hs := (hEW.trans hw').size
        clear hK
        unfold opAt; go_simp; refine upAt_enter ?_
        refine (copyRange_any (op := fop) (hl1.ext HX.out) (hl2.ext HX.out)).mono ?_
        rintro e w9 ⟨A, c, E, d, rfl, ho, ho2, hE9⟩
        exact ⟨_, rfl, hE9, A, c, E, d, rfl, ho.mono hs, ho2.mono hs⟩
      obtain ⟨A7, c7, A8, c8, rfl⟩ : ∃ A c E d, v = .agg #[.slice A flo.length c, .slice E fhi.length d, .bool fop] := by
        obtain ⟨_, _, _, A, c, E, d, h, _⟩ := hv
        exact ⟨A, c, E, d, h⟩
      clear hv
      simp only [Act.put, List.setIfInBounds_toArray, List.set_cons_succ, List.set_cons_zero]
      refine wpR_new (by ((simp only [List.getElem?_toArray, List.getElem?_cons_succ, List.getElem?_cons_zero]; try exact rfl))) _ rfl rfl rfl (fun V v => BuiltR.lasts hD _ _) (fun V V' h => by simp only [h 7 (by kernel_rfl)]) (fun w' hw' hK => ?_) (fun v hv => ?_)
      · have hXs := (hEW.trans hw').size
        unfold opAt
        go_simp
        exact upAt_value ⟨ext_alloc _ _, _, _, rfl, hXs, rfl, heap_alloc_new _ _⟩
      obtain ⟨h8, rfl⟩ : ∃ h, v = .slice (some ⟨h, 0, none⟩) 1 1 := by
        obtain ⟨_, _, _, h, cs, e, _⟩ := hv
        exact ⟨h, e⟩
      clear hv
      simp only [Act.put, List.setIfInBounds_toArray, List.set_cons_succ, List.set_cons_zero]
      refine wpR_late (by ((simp only [List.getElem?_toArray, List.getElem?_cons_succ, List.getElem?_cons_zero]; try exact rfl))) _ rfl rfl (fun V v w' w2 h he => h.ext he) (fun V V' h => by simp only [h 7 (by kernel_rfl)]) (fun w' hw' hK hF => ?_) (fun v hv => ?_)
      · have hF2 : CpS (w.heap.size + 2) g3 [.int .i64 kd, .slice A1 a.length c1, .slice A2 b.length c2, .slice A3 rlo.length c3', .slice A4 rhi.length c4, .bool rop, .slice A5 slo.length c5, .slice A6 shi.length c6, .bool sop] (.slice Av i cv) i fs w' := hF
        have k7 := CRg.open_ (show CRg wr.heap.size flo fhi fop (.agg #[.slice A7 flo.length c7, .slice A8 fhi.length c8, .bool fop]) w' from (hK 7 (by kernel_rfl)).2)
        obtain ⟨h', cs8, e4, _, e5, hbk⟩ := (hK 8 (by kernel_rfl)).2
        obtain rfl := slS_inj (show Value.slice (some ⟨h8, 0, none⟩) 1 1 = _ from e4)
        have hbk' : w'.heap[h8]? = some (Obj.cells #[.slice A7 flo.length c7, .slice A8 fhi.length c8, .bool fop] 32 (0, 0)) := by
          injection (show Value.agg #[.slice A7 flo.length c7, .slice A8 fhi.length c8, .bool fop] = Value.agg cs8 from e5) with e5
          rw [e5]; exact hbk
        have hnews : ∀ j u, (c3 ⟨A7, c7, flo, A8, c8, fhi, fop⟩)[j]? = some u → w'.cell? ((⟨h8, 0, none⟩ : Addr).add j) = some u := fun j u hj => by
          rw [Addr.add_lit, cell_of_row _ _ _ _ _ _ hbk', Nat.zero_add]
          simpa using hj
        have hsz := (hEW.trans hw').size
        refine opAt_list rfl #[] (fun Q hQ => ?_)
        refine wpList_append_own _ rfl _ _ 37 rfl (w.heap.size + 2) 32 i0 (.agg #[.slice none 0 0, .slice none 0 0, .bool false]) 3 56 Try.underlying37 hti hz0 hz1 hz2 rfl (by decide) _ _ _ rfl hF2.row ⟨h8, 0, none⟩ 1 1 (c3 ⟨A7, c7, flo, A8, c8, fhi, fop⟩) rfl rfl hnews (by simp [Value.oneCell']) (by simp [maxLen]; omega) (by omega) (by omega) ?_
        intro v' w3 hown hgrow _
        obtain ⟨A', c', rfl⟩ := slice_of_own hown
        have hxc : Exc (fun k _ => k = g3 ∨ (Value.slice Av i cv).ownBlock = some k) w' w3 := Exc.of_grown hgrow (fun g o hg _ => .inr hg)
        have hbx := blk_kept hgrow (fun q hq => own_blk hF2.row hq) hF2.box (by decide)
        refine hQ _ _ ⟨hxc, A', c', A7, c7, A8, c8, rfl, rfl, hbx, ?_, fun f hf => ?_⟩
        · rw [List.flatMap_append]; simpa using hown
        · rcases List.mem_append.1 hf with hf | hf
          · exact ⟨((hF2.ls f hf).1).row hF2.row (by decide) hgrow, ((hF2.ls f hf).2).row hF2.row (by decide) hgrow⟩
          · rw [List.mem_singleton.1 hf]
            exact ⟨(k7.1.mono (by omega)).row hF2.row (by decide) hgrow, (k7.2.mono (by omega)).row hF2.row (by decide) hgrow⟩
      obtain ⟨A9, c9, rfl⟩ : ∃ A c, v = .slice A (i + 1) c := by
        obtain ⟨_, _, A, c, _, _, _, _, e, _⟩ := hv
        exact ⟨A, c, e⟩
      clear hv
      simp only [Act.put, List.setIfInBounds_toArray, List.set_cons_succ, List.set_cons_zero]
      repeat (first | (apply wpR_one; (case ho => (simp only [List.getElem?_toArray, List.getElem?_cons_succ, List.getElem?_cons_zero]; try exact rfl)); (case hw => rfl); (case hl => rfl); (case hsp => rfl); (case he => rfl); (case hv => (intro w' hw'; (try (have hw2 := Ext.trans hEW hw')); (try (have hw3 := Exc.trans hEW hw')); (try (have hw4 := Exk.trans hEW hw')); (try (have hw5 := Mrk.trans hEW hw')); go_simp; exact rfl)); (case hw0 => (first | exact Below.refl _ _ | exact Exc.of_ext (Below.refl _ _) | exact Exk.of_ext (Below.refl _ _) | exact Mrk.of_ext (Below.refl _ _))); simp only [Act.put, List.setIfInBounds_toArray, List.set_cons_succ, List.set_cons_zero]) | (apply wpR_early; (case ho => (simp only [List.getElem?_toArray, List.getElem?_cons_succ, List.getElem?_cons_zero]; try exact rfl)); (case hw => rfl); (case hl => rfl); (case hsp => rfl); (case he => rfl); (case hv => (intro w' hw'; (try have hw2 := Ext.trans hEW hw'); go_simp; exact rfl)); simp only [Act.put, List.setIfInBounds_toArray, List.set_cons_succ, List.set_cons_zero]) | (apply wpR_pass; (case ho => (simp only [List.getElem?_toArray, List.getElem?_cons_succ, List.getElem?_cons_zero]; try exact rfl)); (case hw => rfl); (case hl => rfl); simp only [Act.put, List.setIfInBounds_toArray, List.set_cons_succ, List.set_cons_zero]))
      refine wpR_late (by ((simp only [List.getElem?_toArray, List.getElem?_cons_succ, List.getElem?_cons_zero]; try exact rfl))) _ rfl rfl (fun V v w' w2 h he => h.ext he) (fun V V' h => by simp only [h 7 (by kernel_rfl), h 9 (by kernel_rfl)]) (fun w' hw' hK hF => ?_) (fun v hv => ?_)
      · obtain ⟨A', c', lA', lc', hA', hc', e1, e2, hbx, hrow, hls⟩ := hF
        have d9 := cell_of_row w' g3 9 _ _ _ hbx
        have f9 := frozen_of_row w' g3 9 _ _ hbx
        simp at d9
        have hn9 := heap_setCell_same w' g3 9 _ _ (.slice A9 (i + 1) c9) hbx
        have e3 : (([.int .i64 kd, .slice A1 a.length c1, .slice A2 b.length c2, .slice A3 rlo.length c3', .slice A4 rhi.length c4, .bool rop, .slice A5 slo.length c5, .slice A6 shi.length c6, .bool sop] : List Value) ++ [Value.slice Av i cv]).toArray.setIfInBounds 9 (.slice A9 (i + 1) c9) = (([.int .i64 kd, .slice A1 a.length c1, .slice A2 b.length c2, .slice A3 rlo.length c3', .slice A4 rhi.length c4, .bool rop, .slice A5 slo.length c5, .slice A6 shi.length c6, .bool sop] : List Value) ++ [Value.slice A9 (i + 1) c9]).toArray := by simp
        rw [e3] at hn9
        have hk9 : w'.grownBy (w'.setCell ⟨g3, 9, none⟩ (.slice A9 (i + 1) c9)) (some g3) := ⟨rfl, rfl, rfl, by simp, fun k _ hk => heap_setCell_other w' ⟨g3, 9, none⟩ k _ (fun e => hk (by simp [e]))⟩
        have HR := Lib.hid (show Exc (fun k _ => k = g3 ∨ (Value.slice Av i cv).ownBlock = some k) w' (w'.setCell ⟨g3, 9, none⟩ (.slice A9 (i + 1) c9)) ∧ CpE (w.heap.size + 2) g3 [.int .i64 kd, .slice A1 a.length c1, .slice A2 b.length c2, .slice A3 rlo.length c3', .slice A4 rhi.length c4, .bool rop, .slice A5 slo.length c5, .slice A6 shi.length c6, .bool sop] (i + 1) fs flo fhi fop (.agg #[.slice A7 flo.length c7, .slice A8 fhi.length c8, .bool fop]) (.slice A9 (i + 1) c9) (w'.setCell ⟨g3, 9, none⟩ (.slice A9 (i + 1) c9)) from
          ⟨Exc.of_only hk9 (fun _ _ => .inl rfl), lA', lc', hA', hc', e2, hn9, own_kept9 hbx (by decide) hk9 hrow, fun f hf => ⟨((hls f hf).1).other hbx (by decide) hk9, ((hls f hf).2).other hbx (by decide) hk9⟩⟩)
        clear e1 e2 hbx hrow hls hn9 hk9 e3 hK e9 y0 y1 y2 q9
        unfold opAt
        go_simp
        exact upAt_skip HR.out
      clear hv
      apply wpR_nil
      apply hN
      intro w5 hE' hK hF
      have hF5 : CpE (w.heap.size + 2) g3 [.int .i64 kd, .slice A1 a.length c1, .slice A2 b.length c2, .slice A3 rlo.length c3', .slice A4 rhi.length c4, .bool rop, .slice A5 slo.length c5, .slice A6 shi.length c6, .bool sop] (i + 1) fs flo fhi fop (.agg #[.slice A7 flo.length c7, .slice A8 fhi.length c8, .bool fop]) (.slice A9 (i + 1) c9) w5 := hF
      obtain ⟨lA', lc', hA', hc', _, hC5⟩ := hF5
      have HS5 := Lib.hid hC5
      have hx5 : Exc (OrBlk (w.heap.size + 2)) w2 w5 := hx.trans (Exc.weaken (hX w5 hE') hDo)
      have HMR5 := Lib.hid (show (fs ++ [(⟨lA', lc', flo, hA', hc', fhi, fop⟩ : Fr)]).map rg = (l.take (i + 1)).map rg by rw [HTK.out, List.map_append, HMR.out]; rfl)
      have HFL5 := Lib.hid (show (fs ++ [(⟨lA', lc', flo, hA', hc', fhi, fop⟩ : Fr)]).length = i + 1 by rw [List.length_append, HFL.out]; rfl)
      clear hK hN hF hC5 e9 y0 y1 y2 q9 hX hXE hEW hE' hD hDw hDo hF0 hW HS HMR HFL
      go_wp2
      go_roundw
      case rel => exact ⟨i + 1, _, _, by omega, by go_num, HFL5, HMR5, HS5, hx5⟩
      case measure => simp [intOf]; omega
    · obtain rfl : i = l.length := by omega
      have HS3 := HS.out
      have hbx : wr.heap[g3]? = some (.cells #[.int .i64 kd, .slice A1 a.length c1, .slice A2 b.length c2, .slice A3 rlo.length c3', .slice A4 rhi.length c4, .bool rop, .slice A5 slo.length c5, .slice A6 shi.length c6, .bool sop, .slice Av l.length cv] 47) := HS3.box
      have hO := HO.out
      have hd8 : ∀ k cs, w.heap.size + 2 ≤ k → ¬ OrBlk (w.heap.size + 2) k (.cells cs 5 (0, 0)) := fun k cs _ => OrBlk.not8
      have o1 := ownsRow_exc8 hO.1 hx hd8
      have o2 := ownsRow_exc8 hO.2.1 hx hd8
      have o3 := ownsRow_exc8 hO.2.2.1 hx hd8
      have o4 := ownsRow_exc8 hO.2.2.2.1 hx hd8
      have o5 := ownsRow_exc8 hO.2.2.2.2.1 hx hd8
      have o6 := ownsRow_exc8 hO.2.2.2.2.2 hx hd8
      have HQ := Lib.hid (show _ ∧ _ ∧ _ ∧ _ ∧ _ ∧ _ from ⟨o1, o2, o3, o4, o5, o6⟩)
      have HB1 := Lib.hid hb1
      have d0 := cell_of_row wr g3 0 _ _ _ hbx
      have d1 := cell_of_row wr g3 1 _ _ _ hbx
      have d2 := cell_of_row wr g3 2 _ _ _ hbx
      have d3 := cell_of_row wr g3 3 _ _ _ hbx
      have d4 := cell_of_row wr g3 4 _ _ _ hbx
      have d5 := cell_of_row wr g3 5 _ _ _ hbx
      have d6 := cell_of_row wr g3 6 _ _ _ hbx
      have d7 := cell_of_row wr g3 7 _ _ _ hbx
      have d8 := cell_of_row wr g3 8 _ _ _ hbx
      have d9 := cell_of_row wr g3 9 _ _ _ hbx
      simp at d0 d1 d2 d3 d4 d5 d6 d7 d8 d9
      clear o1 o2 o3 o4 o5 o6 hO HS3 hbx hb1
      go_wp2_with (refine wpList_store_box rfl 47 _ _ rfl (w.heap.size + 1) _ rfl rfl 47 _ HB1.out (by kernel_rfl) rfl (by simp [Value.oneCell']) ?_; intro w9 hb9 hg9)
      have hE9 := ext_only hEr hg9 (Nat.le_succ _)
      have hx9 : Exc (fun k _ => k = w.heap.size + 1) wr w9 := Exc.of_only hg9 (fun _ _ => rfl)
      have hdl : ∀ k (o : Obj), k = w.heap.size + 1 → k < w.heap.size + 2 := fun k _ e => by omega
      have hO := HQ.out
      have hrow := own_exc HS.out.row hx9 (fun q cs h1 h2 => by omega)
      have HF := Lib.hid (show OpR w9 ⟨kd, A1, c1, a, A2, c2, b, ⟨A3, c3', rlo, A4, c4, rhi, rop⟩, ⟨A5, c5, slo, A6, c6, shi, sop⟩, Av, cv, fs⟩ from by
        obtain ⟨za, zb, zrl, zrh, zsl, zsh, zl⟩ := HZ.out
        have hfl := HFL.out
        have hzf : ∀ f ∈ fs, smallL f.lo ∧ smallL f.hi := fun f hf => by
          have h1 : rg f ∈ fs.map rg := List.mem_map.2 ⟨f, hf, rfl⟩
          rw [HMR.out] at h1
          obtain ⟨t, ht, h2⟩ := List.mem_map.1 h1
          have h3 := zl t (List.mem_of_mem_take ht)
          have h4 : t.lo = f.lo := congrArg Rg.lo h2
          have h5 : t.hi = f.hi := congrArg Rg.hi h2
          rw [← h4, ← h5]
          exact h3
        have hle9 := own_le hrow
        refine ⟨(own_exc1 hO.1 hx9 hdl).sl (Nat.le_trans za (by omega)), (own_exc1 hO.2.1 hx9 hdl).sl (Nat.le_trans zb (by omega)), (own_exc1 hO.2.2.1 hx9 hdl).sl (Nat.le_trans zrl (by omega)), (own_exc1 hO.2.2.2.1 hx9 hdl).sl (Nat.le_trans zrh (by omega)), (own_exc1 hO.2.2.2.2.1 hx9 hdl).sl (Nat.le_trans zsl (by omega)), (own_exc1 hO.2.2.2.2.2 hx9 hdl).sl (Nat.le_trans zsh (by omega)), ?_, by show fs.length ≤ 60; omega, by show fs.length ≤ cv; omega, hle9.2, za, zb, zrl, zrh, zsl, zsh, hzf⟩
        show RowR w9 Av fs
        rw [← hfl] at hrow
        exact rowR_of (C := 0) hrow fun f hf => ⟨(own_exc1 (HS.out.ls f hf).1 hx9 hdl).sl (Nat.le_trans (hzf f hf).1 (by omega)), (own_exc1 (HS.out.ls f hf).2 hx9 hdl).sl (Nat.le_trans (hzf f hf).2 (by omega))⟩)
      have HP := Lib.hid (show fs.map rg = l.map rg by rw [HMR.out, List.take_length])
      clear hO hrow hx9 hx
      go_wp2
      refine bodyPost_ret (results_cell_row rfl _ _ _ _ _ _ _ rfl hb9 Try.underlying47 rfl (by kernel_rfl)) rfl ⟨⟨kd, A1, c1, a, A2, c2, b, ⟨A3, c3', rlo, A4, c4, rhi, rop⟩, ⟨A5, c5, slo, A6, c6, shi, sop⟩, Av, cv, fs⟩, ?_, ?_, HF.out, hE9⟩
      · dsimp only [Opn.v]; rw [HFL.out]
      · dsimp only [Opn.p]; rw [HP.out]
end Go.Proofs.Ytijlaknfagpglaa
