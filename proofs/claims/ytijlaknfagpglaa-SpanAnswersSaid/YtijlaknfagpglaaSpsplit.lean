/- The contract of span.Split. No condition but that each list lies in memory as a slice. -/
import Derived.Test.YtijlaknfagpglaaSpann
import Derived.Test.YtijlaknfagpglaaRg
namespace Go.Proofs.Ytijlaknfagpglaa
set_option linter.unusedVariables false
open Go.RowKit Go.Proofs
theorem results_rr {P : Program} {fn : Func} {p q : Tmp} {ty tz : TypeId} (h : fn.results = #[.cell p ty, .cell q tz]) (tmps : Array Value) (w : World) (g g' : Nat) (t t' : TypeId) (cs cs' : Array Value) (fr fr' : Nat × Nat) (d d' : TypeDesc)
    (hp : tmps.getD p undef = .pointer (some ⟨g, 0, none⟩)) (hg : w.heap[g]? = some (.cells cs t fr))
    (hu : P.underlying ty = some d) (hd : (match d with | .struct _ | .array _ _ => true | _ => false) = true) (hi : (P.info? ty).map (·.size) = some cs.size)
    (hp' : tmps.getD q undef = .pointer (some ⟨g', 0, none⟩)) (hg' : w.heap[g']? = some (.cells cs' t' fr'))
    (hu' : P.underlying tz = some d') (hd' : (match d' with | .struct _ | .array _ _ => true | _ => false) = true) (hi' : (P.info? tz).map (·.size) = some cs'.size) :
    (results fn tmps).run P w = .ok (.tuple #[.agg cs, .agg cs']) w := by
  have e1 : tmps[p]?.getD undef = .pointer (some ⟨g, 0, none⟩) := by simpa using hp
  have e2 : tmps[q]?.getD undef = .pointer (some ⟨g', 0, none⟩) := by simpa using hp'
  simp [results, h, e1, e2, asAddr, Sem.run_bind, Result.andThen, run_loadVar_row w g t ty cs fr d hg hu hd hi, run_loadVar_row w g' t' tz cs' fr' d' hg' hu' hd' hi']
theorem upAt_skip {P : Program} {o : Oper} {a : Act} {G : Value → World → Prop} {w : World} (h : G undef w) : upAt P o a G (.ok .skip w) := ⟨undef, rfl, h⟩
theorem ptrR_inj {g g' : Nat} (h : Value.pointer (some ⟨g, 0, none⟩) = Value.pointer (some ⟨g', 0, none⟩)) : g = g' := by
  injection h with h; injection h with h; injection h with h
/-- Blocks of ranges from B on. -/
def RgBlk (B : Nat) : Nat → Obj → Prop := fun k o => B ≤ k ∧ ∃ (cs : Array Value) (fr : Nat × Nat), o = .cells cs 32 fr
theorem RgBlk.not8 {B k : Nat} {cs : Array Value} {fr : Nat × Nat} : ¬ RgBlk B k (.cells cs 5 fr) := fun ⟨_, _, _, h⟩ => by injection h with _ h; exact absurd h (by decide)
theorem RgBlk.notLt {B k : Nat} {o : Obj} (hk : k < B) : ¬ RgBlk B k o := fun ⟨h, _⟩ => by omega
theorem ownsRow_exc8 {D : Nat → Obj → Prop} {B : Nat} {w w' : World} {A : Option Addr} {c : Nat} {bs : List UInt8} (h : Own 5 B w A c bs) (hx : Exc D w w') (hd : ∀ k cs, B ≤ k → ¬ D k (.cells cs 5 (0, 0))) : Own 5 B w' A c bs := by
  refine ⟨h.1, ?_⟩
  rcases h.2 with h0 | ⟨g, cap, cur, hv, hb, hg, r⟩
  · exact .inl h0
  · exact .inr ⟨g, cap, cur, hv, hb, hx.blk hg (hd g cur hb), r⟩
theorem SOwn.lastsRg {C B : Nat} (bs : List UInt8) (v : Value) : Lasts (Exk (RgBlk C)) (SOwn 5 B bs v) := fun w w' ⟨A, c, hv, ho⟩ hx => ⟨A, c, hv, ownsRow_exc8 ho hx.x (fun k cs _ => RgBlk.not8)⟩
def RgCell (C : Nat) (v : Value) (w : World) : Prop := ∃ g, v = .pointer (some ⟨g, 0, none⟩) ∧ C ≤ g ∧ ∃ cs, w.heap[g]? = some (.cells cs 32 (0, 0)) ∧ cs.size = 3
theorem RgCell.lasts {D : Nat → Obj → Prop} (C : Nat) (v : Value) : Lasts (Exk D) (RgCell C v) := fun w w' ⟨g, h1, h2, cs, h3, h4⟩ hx => by
  obtain ⟨cs', h5, h6⟩ := hx.keep g cs _ h3
  exact ⟨g, h1, h2, cs', h5, h6.trans h4⟩
/-- A range stands in a box. -/
def RgAt (C : Nat) (lo hi op v : Value) (w : World) : Prop := ∃ g, v = .pointer (some ⟨g, 0, none⟩) ∧ C ≤ g ∧ w.heap[g]? = some (.cells #[lo, hi, op] 32 (0, 0))
theorem RgAt.ext {C : Nat} {lo hi op v : Value} {w w' : World} (h : RgAt C lo hi op v w) (he : Ext w w') : RgAt C lo hi op v w' := by
  obtain ⟨g, h1, h2, h3⟩ := h
  exact ⟨g, h1, h2, he.blk h3⟩
theorem wpList_store_atR {P : Program} {ops : Array Oper} {rest : List Oper} {dst : Option Nat} {ty0 : TypeId} {pos : String} {after : Array Edge} {a : Act} {w : World} {Q : Exit → Act → World → Prop} (ty : TypeId) (x y : Operand)
    (g : Nat) (cells : Array Value) (hx : a.eval x = .pointer (some ⟨g, 0, none⟩)) (hy : a.eval y = .agg cells)
    (t : TypeId) (old : Array Value) (hg : w.heap[g]? = some (.cells old t (0, 0))) (hi : (P.info? ty).map (·.size) = some cells.size)
    (hold : old.size = cells.size) (h1 : cells.all (·.oneCell') = true)
    (h : ∀ w', w'.heap[g]? = some (.cells cells t (0, 0)) → w.grownBy w' (some g) → wpList P ops Q rest (a.put dst undef) w') : wpList P ops Q (⟨dst, .store ty x y, ty0, pos, after, none⟩ :: rest) a w :=
  wpList_store_box (o := ⟨dst, .store ty x y, ty0, pos, after, none⟩) rfl ty x y rfl g cells hx hy t old hg hi hold h1 h
theorem setCell_excR (w : World) (g i : Nat) (v : Value) : Exc (fun q _ => q = g) w (w.setCell ⟨g, i, none⟩ v) :=
  ⟨rfl, rfl, rfl, by simp [World.setCell], fun k o hk hn => (Below.heap_setCell w _ v k (fun e => hn e)).trans hk⟩
set_option maxRecDepth 100000 in
set_option maxHeartbeats 2000000 in
theorem split_true {aA aB C : Option Addr} {ac ad f n : Nat} {a ah k : List UInt8} {w : World} (ha : Sl w aA ac a) (hah : Sl w aB ad ah) (hk : Sl w C f k) (hn : n = k.length) :
    Calls Try.prog 32 #[.agg #[.slice aA a.length ac, .slice aB ah.length ad, .bool true], .slice C n f] w fun e w' => ∃ A c B d A2 c2 B2 d2 r s, r = lowB ⟨a, ah, true⟩ k ∧ s = highB ⟨a, ah, true⟩ k ∧
      e = .returned (.tuple #[.agg #[.slice A r.lo.length c, .slice B r.hi.length d, .bool r.op], .agg #[.slice A2 s.lo.length c2, .slice B2 s.hi.length d2, .bool s.op]]) ∧
      Own 5 w.heap.size w' A c r.lo ∧ Own 5 w.heap.size w' B d r.hi ∧ Own 5 w.heap.size w' A2 c2 s.lo ∧ Own 5 w.heap.size w' B2 d2 s.hi ∧ Ext w w' := by
  subst hn
  have hla := ha.len
  have hlh := hah.len
  have hlk := hk.len
  go_enter Try.func32, Try.ntmps32
  go_wp2
  refine wp_cut (fun W => Ext w W ∧ W.heap[w.heap.size]? = some (.cells #[.slice aA a.length ac, .slice aB ah.length ad, .bool true] 32) ∧ W.heap[w.heap.size + 1]? = some (.cells #[.slice none 0 0, .slice none 0 0, .bool false] 32) ∧ W.heap[w.heap.size + 1 + 1]? = some (.cells #[.slice none 0 0, .slice none 0 0, .bool false] 32)) ⟨((ext_alloc _ _).trans (ext_alloc _ _)).trans (ext_alloc _ _), (ext_alloc _ _).blk (heap_alloc2_old _ _ _), (ext_alloc _ _).blk (heap_alloc2_new _ _ _), by rw [show w.heap.size + 1 + 1 = ((w.alloc _).alloc _).heap.size by simp]; exact heap_alloc_new _ _⟩ ?_
  rintro w1 ⟨hE, b0, b1, b2⟩
  have H0 := Lib.hid b0
  have H4 := Lib.hid b1
  have H5 := Lib.hid b2
  have hw1 : w.heap.size + 1 + 1 < w1.heap.size := (Array.getElem?_eq_some_iff.1 b2).1
  clear b0 b1 b2
  refine wp_region_rg (Exk (RgBlk w1.heap.size)) (rel_exk _) (fun _ => True) [0, 1, 2, 3, 4, 5, 6, 7, 8, 9, 10, 11, 12, 13, 14] (fun i => match i with
    | 2 => some fun V => SOwn 5 w1.heap.size a
    | 7 => some fun V => SOwn 5 w1.heap.size (maxB a k)
    | 11 => some fun V => RgCell w1.heap.size
    | 12 => some fun V => RgCell w1.heap.size
    | _ => none) (fun i => match i with
    | 13 => some fun V _ => RgAt w1.heap.size (V 2) (.slice none 0 0) (.bool false) (V 11)
    | 14 => some fun V _ w' => RgAt w1.heap.size (V 2) (.slice none 0 0) (.bool false) (V 11) w' ∧ RgAt w1.heap.size (V 7) (.slice none 0 0) (.bool true) (V 12) w' ∧ V 11 ≠ V 12
    | _ => none) (fun _ => false) (by kernel_rfl) (by kernel_rfl) (fun _ _ h he => trivial) trivial (fun W N hW hF0 hN => ?_)
  have hEW : Exk (RgBlk w1.heap.size) w1 W := Exk.of_ext hW
  have hX : ∀ w', Exk (RgBlk w1.heap.size) W w' → Ext w w' := fun w' h => (Exk.trans hEW h).x.to_ext hE (fun k _ hk => by have := hk.1; omega)
  have e0 : ∀ w', Exk (RgBlk w1.heap.size) w1 w' → w'.cell? ⟨w.heap.size, 0, none⟩ = some (.slice aA a.length ac) := fun w' h => cell_of_row _ _ _ _ _ _ (h.x.blk H0.out (RgBlk.notLt (by omega)))
  have e1 : ∀ w', Exk (RgBlk w1.heap.size) w1 w' → w'.cell? ⟨w.heap.size, 1, none⟩ = some (.slice aB ah.length ad) := fun w' h => cell_of_row _ _ _ _ _ _ (h.x.blk H0.out (RgBlk.notLt (by omega)))
  have e2 : ∀ w', Exk (RgBlk w1.heap.size) w1 w' → w'.cell? ⟨w.heap.size, 2, none⟩ = some (.bool true) := fun w' h => cell_of_row _ _ _ _ _ _ (h.x.blk H0.out (RgBlk.notLt (by omega)))
  repeat (first | (apply wpR_one; (case ho => (simp only [List.getElem?_toArray, List.getElem?_cons_succ, List.getElem?_cons_zero]; try exact rfl)); (case hw => rfl); (case hl => rfl); (case hsp => rfl); (case he => rfl); (case hv => (intro w' hw'; (try (have hw2 := Ext.trans hEW hw')); (try (have hw3 := Exc.trans hEW hw')); (try (have hw4 := Exk.trans hEW hw')); (try (have hw5 := Mrk.trans hEW hw')); go_simp; exact rfl)); (case hw0 => (first | exact Below.refl _ _ | exact Exc.of_ext (Below.refl _ _) | exact Exk.of_ext (Below.refl _ _) | exact Mrk.of_ext (Below.refl _ _))); simp only [Act.put, List.setIfInBounds_toArray, List.set_cons_succ, List.set_cons_zero]) | (apply wpR_early; (case ho => (simp only [List.getElem?_toArray, List.getElem?_cons_succ, List.getElem?_cons_zero]; try exact rfl)); (case hw => rfl); (case hl => rfl); (case hsp => rfl); (case he => rfl); (case hv => (intro w' hw'; (try have hw2 := Ext.trans hEW hw'); go_simp; exact rfl)); simp only [Act.put, List.setIfInBounds_toArray, List.set_cons_succ, List.set_cons_zero]) | (apply wpR_pass; (case ho => (simp only [List.getElem?_toArray, List.getElem?_cons_succ, List.getElem?_cons_zero]; try exact rfl)); (case hw => rfl); (case hl => rfl); simp only [Act.put, List.setIfInBounds_toArray, List.set_cons_succ, List.set_cons_zero]))
  refine wpR_new (by ((simp only [List.getElem?_toArray, List.getElem?_cons_succ, List.getElem?_cons_zero]; try exact rfl))) _ rfl rfl rfl (fun V v => SOwn.lastsRg _ _) (fun V V' h => rfl) (fun w' hw' hK => ?_) (fun v hv => ?_)
  · have HX := Lib.hid (hX w' hw')
    have hs := (hEW.trans hw').x.size
    clear hK
    unfold opAt; go_simp; refine upAt_enter ?_
    refine (fresh0_any (ha.ext HX.out) rfl).mono ?_
    rintro e w9 ⟨g, rfl, hg, hbk, hE9⟩
    exact ⟨_, rfl, hE9, _, _, rfl, (hbk.whole hg (by omega)).mono hs⟩
  obtain ⟨A1, c1, rfl⟩ : ∃ A c, v = .slice A a.length c := by
    obtain ⟨_, _, _, A, c, h, _⟩ := hv
    exact ⟨A, c, h⟩
  clear hv
  simp only [Act.put, List.setIfInBounds_toArray, List.set_cons_succ, List.set_cons_zero]
  repeat (first | (apply wpR_one; (case ho => (simp only [List.getElem?_toArray, List.getElem?_cons_succ, List.getElem?_cons_zero]; try exact rfl)); (case hw => rfl); (case hl => rfl); (case hsp => rfl); (case he => rfl); (case hv => (intro w' hw'; (try (have hw2 := Ext.trans hEW hw')); (try (have hw3 := Exc.trans hEW hw')); (try (have hw4 := Exk.trans hEW hw')); (try (have hw5 := Mrk.trans hEW hw')); go_simp; exact rfl)); (case hw0 => (first | exact Below.refl _ _ | exact Exc.of_ext (Below.refl _ _) | exact Exk.of_ext (Below.refl _ _) | exact Mrk.of_ext (Below.refl _ _))); simp only [Act.put, List.setIfInBounds_toArray, List.set_cons_succ, List.set_cons_zero]) | (apply wpR_early; (case ho => (simp only [List.getElem?_toArray, List.getElem?_cons_succ, List.getElem?_cons_zero]; try exact rfl)); (case hw => rfl); (case hl => rfl); (case hsp => rfl); (case he => rfl); (case hv => (intro w' hw'; (try have hw2 := Ext.trans hEW hw'); go_simp; exact rfl)); simp only [Act.put, List.setIfInBounds_toArray, List.set_cons_succ, List.set_cons_zero]) | (apply wpR_pass; (case ho => (simp only [List.getElem?_toArray, List.getElem?_cons_succ, List.getElem?_cons_zero]; try exact rfl)); (case hw => rfl); (case hl => rfl); simp only [Act.put, List.setIfInBounds_toArray, List.set_cons_succ, List.set_cons_zero]))
  refine wpR_new (by ((simp only [List.getElem?_toArray, List.getElem?_cons_succ, List.getElem?_cons_zero]; try exact rfl))) _ rfl rfl rfl (fun V v => SOwn.lastsRg _ _) (fun V V' h => rfl) (fun w' hw' hK => ?_) (fun v hv => ?_)
  · have HX := Lib.hid (hX w' hw')
    have hs := (hEW.trans hw').x.size
    clear hK
    unfold opAt; go_simp; refine upAt_enter ?_
    refine (more_any (ha.ext HX.out) (hk.ext HX.out) rfl rfl).mono ?_
    rintro e w9 ⟨A, c, rfl, ho, hE9⟩
    exact ⟨_, rfl, hE9, A, c, rfl, ho.mono hs⟩
  obtain ⟨A2, c2, rfl⟩ : ∃ A c, v = .slice A (maxB a k).length c := by
    obtain ⟨_, _, _, A, c, h, _⟩ := hv
    exact ⟨A, c, h⟩
  clear hv
  simp only [Act.put, List.setIfInBounds_toArray, List.set_cons_succ, List.set_cons_zero]
  repeat (first | (apply wpR_one; (case ho => (simp only [List.getElem?_toArray, List.getElem?_cons_succ, List.getElem?_cons_zero]; try exact rfl)); (case hw => rfl); (case hl => rfl); (case hsp => rfl); (case he => rfl); (case hv => (intro w' hw'; (try (have hw2 := Ext.trans hEW hw')); (try (have hw3 := Exc.trans hEW hw')); (try (have hw4 := Exk.trans hEW hw')); (try (have hw5 := Mrk.trans hEW hw')); go_simp; exact rfl)); (case hw0 => (first | exact Below.refl _ _ | exact Exc.of_ext (Below.refl _ _) | exact Exk.of_ext (Below.refl _ _) | exact Mrk.of_ext (Below.refl _ _))); simp only [Act.put, List.setIfInBounds_toArray, List.set_cons_succ, List.set_cons_zero]) | (apply wpR_early; (case ho => (simp only [List.getElem?_toArray, List.getElem?_cons_succ, List.getElem?_cons_zero]; try exact rfl)); (case hw => rfl); (case hl => rfl); (case hsp => rfl); (case he => rfl); (case hv => (intro w' hw'; (try have hw2 := Ext.trans hEW hw'); go_simp; exact rfl)); simp only [Act.put, List.setIfInBounds_toArray, List.set_cons_succ, List.set_cons_zero]) | (apply wpR_pass; (case ho => (simp only [List.getElem?_toArray, List.getElem?_cons_succ, List.getElem?_cons_zero]; try exact rfl)); (case hw => rfl); (case hl => rfl); simp only [Act.put, List.setIfInBounds_toArray, List.set_cons_succ, List.set_cons_zero]))
  refine wpR_alloc (by ((simp only [List.getElem?_toArray, List.getElem?_cons_succ, List.getElem?_cons_zero]; try exact rfl))) _ rfl rfl rfl (fun V v => RgCell.lasts _ _) (fun V V' h => rfl) (fun w' hw' hK => ?_) (fun v hv => ?_)
  · have hXs := (hEW.trans hw').x.size
    unfold opAt
    go_simp
    exact upAt_value ⟨ext_alloc _ _, ⟨_, rfl, hXs, _, heap_alloc_new _ _, rfl⟩, fun _ g hg => by injection hg with hg; exact ⟨hg.symm, by simp⟩⟩
  obtain ⟨g6, rfl⟩ : ∃ g, v = .pointer (some ⟨g, 0, none⟩) := by
    obtain ⟨_, _, _, g, e, _⟩ := hv
    exact ⟨g, e⟩
  clear hv
  simp only [Act.put, List.setIfInBounds_toArray, List.set_cons_succ, List.set_cons_zero]
  refine wpR_alloc (by ((simp only [List.getElem?_toArray, List.getElem?_cons_succ, List.getElem?_cons_zero]; try exact rfl))) _ rfl rfl rfl (fun V v => RgCell.lasts _ _) (fun V V' h => rfl) (fun w' hw' hK => ?_) (fun v hv => ?_)
  · have hXs := (hEW.trans hw').x.size
    unfold opAt
    go_simp
    exact upAt_value ⟨ext_alloc _ _, ⟨_, rfl, hXs, _, heap_alloc_new _ _, rfl⟩, fun _ g hg => by injection hg with hg; exact ⟨hg.symm, by simp⟩⟩
  obtain ⟨g7, rfl⟩ : ∃ g, v = .pointer (some ⟨g, 0, none⟩) := by
    obtain ⟨_, _, _, g, e, _⟩ := hv
    exact ⟨g, e⟩
  clear hv
  simp only [Act.put, List.setIfInBounds_toArray, List.set_cons_succ, List.set_cons_zero]
  refine wpR_late (by ((simp only [List.getElem?_toArray, List.getElem?_cons_succ, List.getElem?_cons_zero]; try exact rfl))) _ rfl rfl (fun V v w' w2 h he => h.ext he) (fun V V' h => by simp only [h 2 (by kernel_rfl), h 11 (by kernel_rfl)]) (fun w' hw' hK hF => ?_) (fun v hv => ?_)
  · obtain ⟨g, e8, hg8, cs, hb8, hs8⟩ := (hK 11 (by kernel_rfl)).2
    obtain rfl := ptrR_inj (show Value.pointer (some ⟨g6, 0, none⟩) = _ from e8)
    refine opAt_list rfl #[] (fun Q hQ => ?_)
    refine wpList_store_box rfl 32 _ _ rfl g6 _ rfl rfl 32 _ hb8 (by kernel_rfl) hs8 (by simp [Value.oneCell']) (fun w2 hb hg => ?_)
    exact hQ _ _ ⟨Exk.of_only hg hb8 hb (by rw [hs8]; rfl) ⟨hg8, _, _, rfl⟩, ⟨g6, rfl, hg8, hb⟩⟩
  clear hv
  simp only [Act.put, List.setIfInBounds_toArray, List.set_cons_succ, List.set_cons_zero]
  refine wpR_lateP (by ((simp only [List.getElem?_toArray, List.getElem?_cons_succ, List.getElem?_cons_zero]; try exact rfl))) _ rfl rfl (fun V v w' w2 h he => ⟨h.1.ext he, h.2.1.ext he, h.2.2⟩) (fun V V' h => by simp only [h 2 (by kernel_rfl), h 11 (by kernel_rfl), h 7 (by kernel_rfl), h 12 (by kernel_rfl)]) (fun w' hw' hK hF hP => ?_) (fun v hv => ?_)
  · obtain ⟨g, e9, hg9, cs, hb9, hs9⟩ := (hK 12 (by kernel_rfl)).2
    obtain rfl := ptrR_inj (show Value.pointer (some ⟨g7, 0, none⟩) = _ from e9)
    have hne : g6 ≠ g7 := fun e => hP 11 12 (by kernel_rfl) (by kernel_rfl) (by decide) (by kernel_rfl) (by kernel_rfl) g6 rfl (by rw [e]; rfl)
    obtain ⟨g', e10, hg10, hb10⟩ := hF
    obtain rfl := ptrR_inj (show Value.pointer (some ⟨g6, 0, none⟩) = _ from e10)
    refine opAt_list rfl #[] (fun Q hQ => ?_)
    refine wpList_store_box rfl 32 _ _ rfl g7 _ rfl rfl 32 _ hb9 (by kernel_rfl) hs9 (by simp [Value.oneCell']) (fun w2 hb hg => ?_)
    exact hQ _ _ ⟨Exk.of_only hg hb9 hb (by rw [hs9]; rfl) ⟨hg9, _, _, rfl⟩, ⟨g6, rfl, hg10, blk_other hb10 hg hne⟩, ⟨g7, rfl, hg9, hb⟩, fun e => hne (ptrR_inj (show Value.pointer (some ⟨g6, 0, none⟩) = Value.pointer (some ⟨g7, 0, none⟩) from e))⟩
  clear hv
  apply wpR_nil
  apply hN
  intro w2 hE' hK hF
  have hx := (hEW.trans hE').x
  have k1 : SOwn 5 w1.heap.size a (.slice A1 a.length c1) w2 := (hK 2).2
  have k2 : SOwn 5 w1.heap.size (maxB a k) (.slice A2 (maxB a k).length c2) w2 := (hK 7).2
  obtain ⟨s1, s2, s3⟩ := hF
  obtain ⟨_, x1, x2, x3⟩ := s1
  obtain rfl := ptrR_inj (show Value.pointer (some ⟨g6, 0, none⟩) = _ from x1)
  obtain ⟨_, y1, y2, y3⟩ := s2
  obtain rfl := ptrR_inj (show Value.pointer (some ⟨g7, 0, none⟩) = _ from y1)
  have hne : g6 ≠ g7 := fun e => s3 (by rw [e]; rfl)
  have O1 := Lib.hid (Own.mono k1.own (B' := w.heap.size + 3) (by omega))
  have O3 := Lib.hid (Own.mono k2.own (B' := w.heap.size + 3) (by omega))
  have h6 : w2.heap[g6]? = some (.cells #[.slice A1 a.length c1, .slice none 0 0, .bool false] 32) := x3
  have h7 : w2.heap[g7]? = some (.cells #[.slice A2 (maxB a k).length c2, .slice none 0 0, .bool true] 32) := y3
  have H6 := Lib.hid h6
  have H7 := Lib.hid h7
  have hE2 := hX w2 hE'
  replace H0 := Lib.hid (hx.blk H0.out (RgBlk.notLt (by omega)))
  replace H4 := Lib.hid (hx.blk H4.out (RgBlk.notLt (by omega)))
  replace H5 := Lib.hid (hx.blk H5.out (RgBlk.notLt (by omega)))
  have hg6 : w.heap.size + 3 ≤ g6 := by omega
  have hg7 : w.heap.size + 3 ≤ g7 := by omega
  have hw2 : w.heap.size + 3 ≤ w2.heap.size := by have := hx.size; omega
  clear hK hN k1 k2 s3 x1 y1 x3 y3 h6 h7 hx hE hX hEW hE' hW hF0 e0 e1 e2
  have hE := hE2
  clear hE2
  have e2 := cell_of_row w2 w.heap.size 2 _ _ _ H0.out
  simp at e2
  go_wp2_with fail
  refine (fresh0_any (hk.ext hE) rfl).mono ?_
  rintro e w3 ⟨g, rfl, hg, hbk, hE3⟩
  have ho := Own.mono (hbk.whole hg (by omega)) (B' := w.heap.size + 3) (by omega)
  have h6 := hE3.blk H6.out
  have d1 := cell_of_row w3 g6 1 _ _ _ h6
  have f1 := frozen_of_row w3 g6 1 _ _ h6
  simp at d1
  have hex := setCell_excR w3 g6 1 (.slice (some ⟨g, 0, none⟩) k.length k.length)
  have h6' := heap_setCell_same w3 g6 1 _ _ (.slice (some ⟨g, 0, none⟩) k.length k.length) h6
  simp only [List.setIfInBounds_toArray, List.set_cons_succ, List.set_cons_zero] at h6'
  have hgi : ∀ q cs, w3.heap[q]? = some (.cells cs 5 (0, 0)) → q ≠ g6 := fun q cs h e => by
    subst e
    rw [h] at h6
    injection h6 with h6
    injection h6 with _ e
    exact absurd e (by decide)
  have hx8 : ∀ {A : Option Addr} {c : Nat} {bs : List UInt8}, Own 5 (w.heap.size + 3) w3 A c bs → Own 5 (w.heap.size + 3) (w3.setCell ⟨g6, 1, none⟩ (.slice (some ⟨g, 0, none⟩) k.length k.length)) A c bs := fun {A c bs} h => by
    refine ⟨h.1, ?_⟩
    rcases h.2 with h0 | ⟨q, cap, cur, hv, hb, hq, r⟩
    · exact .inl h0
    · exact .inr ⟨q, cap, cur, hv, hb, hex.blk hq (hgi q cur hq), r⟩
  have HW := Lib.hid (show Ext w (w3.setCell ⟨g6, 1, none⟩ (.slice (some ⟨g, 0, none⟩) k.length k.length)) ∧ _ ∧ _ ∧ _ ∧ _ ∧ _ ∧ _ ∧ _ from ⟨hex.to_ext (hE.trans hE3) (fun q _ h => by omega), h6', hex.blk (hE3.blk H7.out) (by omega), hex.blk (hE3.blk H4.out) (by omega), hex.blk (hE3.blk H5.out) (by omega), hx8 (O1.out.ext hE3), hx8 (O3.out.ext hE3), hx8 ho⟩)
  clear hex h6' hgi hx8 h6 hE3 hbk ho hE O1 O3 H6 H7 H4 H5 H0
  go_wp2
  refine wp_cut (fun W => Ext w W ∧ W.heap[g6]? = some (.cells #[.slice A1 a.length c1, .slice (some ⟨g, 0, none⟩) k.length k.length, .bool false] 32) ∧ W.heap[g7]? = some (.cells #[.slice A2 (maxB a k).length c2, .slice none 0 0, .bool true] 32) ∧ W.heap[w.heap.size + 1]? = some (.cells #[.slice none 0 0, .slice none 0 0, .bool false] 32) ∧ W.heap[w.heap.size + 1 + 1]? = some (.cells #[.slice none 0 0, .slice none 0 0, .bool false] 32) ∧ Own 5 (w.heap.size + 3) W A1 c1 a ∧ Own 5 (w.heap.size + 3) W A2 c2 (maxB a k) ∧ Own 5 (w.heap.size + 3) W (some ⟨g, 0, none⟩) k.length k) HW.out ?_
  clear HW d1 f1 e2
  rintro w5 ⟨hE, h6, h7, h4, h5, o1, o3, o2⟩
  have H6 := Lib.hid h6
  have H7 := Lib.hid h7
  have H4 := Lib.hid h4
  have H5 := Lib.hid h5
  have O1 := Lib.hid o1
  have O2 := Lib.hid o2
  have O3 := Lib.hid o3
  have O4 := Lib.hid (show Own 5 (w.heap.size + 3) w5 none 0 [] from own_nil _ _ _)
  clear h6 h7 h4 h5 o1 o2 o3
  refine wp_region_rg (Exc (fun k _ => k = w.heap.size + 1 ∨ k = w.heap.size + 1 + 1)) (rel_exc _) (fun w' => w'.heap[w.heap.size + 1]? = some (.cells #[.slice none 0 0, .slice none 0 0, .bool false] 32) ∧ w'.heap[w.heap.size + 1 + 1]? = some (.cells #[.slice none 0 0, .slice none 0 0, .bool false] 32)) [0, 1, 2, 3] (fun _ => none) (fun i => match i with
    | 2 => some fun _ _ w' => w'.heap[w.heap.size + 1]? = some (.cells #[.slice A1 a.length c1, .slice (some ⟨g, 0, none⟩) k.length k.length, .bool false] 32) ∧ w'.heap[w.heap.size + 1 + 1]? = some (.cells #[.slice none 0 0, .slice none 0 0, .bool false] 32)
    | 3 => some fun _ _ w' => w'.heap[w.heap.size + 1]? = some (.cells #[.slice A1 a.length c1, .slice (some ⟨g, 0, none⟩) k.length k.length, .bool false] 32) ∧ w'.heap[w.heap.size + 1 + 1]? = some (.cells #[.slice A2 (maxB a k).length c2, .slice none 0 0, .bool true] 32)
    | _ => none) (fun _ => false) (by kernel_rfl) (by kernel_rfl) (fun _ _ h he => ⟨he.blk h.1, he.blk h.2⟩) ⟨H4.out, H5.out⟩ (fun W N hW hF0 hN => ?_)
  have hEW : Exc (fun k _ => k = w.heap.size + 1 ∨ k = w.heap.size + 1 + 1) w5 W := Exc.of_ext hW
  have x0 : ∀ w', Exc (fun k _ => k = w.heap.size + 1 ∨ k = w.heap.size + 1 + 1) w5 w' → w'.cell? ⟨g6, 0, none⟩ = some (.slice A1 a.length c1) := fun w' h => cell_of_row _ _ _ _ _ _ (h.blk H6.out (by omega))
  have x1 : ∀ w', Exc (fun k _ => k = w.heap.size + 1 ∨ k = w.heap.size + 1 + 1) w5 w' → w'.cell? ⟨g6, 1, none⟩ = some (.slice (some ⟨g, 0, none⟩) k.length k.length) := fun w' h => cell_of_row _ _ _ _ _ _ (h.blk H6.out (by omega))
  have x2 : ∀ w', Exc (fun k _ => k = w.heap.size + 1 ∨ k = w.heap.size + 1 + 1) w5 w' → w'.cell? ⟨g6, 2, none⟩ = some (.bool false) := fun w' h => cell_of_row _ _ _ _ _ _ (h.blk H6.out (by omega))
  have y0 : ∀ w', Exc (fun k _ => k = w.heap.size + 1 ∨ k = w.heap.size + 1 + 1) w5 w' → w'.cell? ⟨g7, 0, none⟩ = some (.slice A2 (maxB a k).length c2) := fun w' h => cell_of_row _ _ _ _ _ _ (h.blk H7.out (by omega))
  have y1 : ∀ w', Exc (fun k _ => k = w.heap.size + 1 ∨ k = w.heap.size + 1 + 1) w5 w' → w'.cell? ⟨g7, 1, none⟩ = some (.slice none 0 0) := fun w' h => cell_of_row _ _ _ _ _ _ (h.blk H7.out (by omega))
  have y2 : ∀ w', Exc (fun k _ => k = w.heap.size + 1 ∨ k = w.heap.size + 1 + 1) w5 w' → w'.cell? ⟨g7, 2, none⟩ = some (.bool true) := fun w' h => cell_of_row _ _ _ _ _ _ (h.blk H7.out (by omega))
  repeat (first | (apply wpR_one; (case ho => (simp only [List.getElem?_toArray, List.getElem?_cons_succ, List.getElem?_cons_zero]; try exact rfl)); (case hw => rfl); (case hl => rfl); (case hsp => rfl); (case he => rfl); (case hv => (intro w' hw'; (try (have hw2 := Ext.trans hEW hw')); (try (have hw3 := Exc.trans hEW hw')); (try (have hw4 := Exk.trans hEW hw')); (try (have hw5 := Mrk.trans hEW hw')); go_simp; exact rfl)); (case hw0 => (first | exact Below.refl _ _ | exact Exc.of_ext (Below.refl _ _) | exact Exk.of_ext (Below.refl _ _) | exact Mrk.of_ext (Below.refl _ _))); simp only [Act.put, List.setIfInBounds_toArray, List.set_cons_succ, List.set_cons_zero]) | (apply wpR_early; (case ho => (simp only [List.getElem?_toArray, List.getElem?_cons_succ, List.getElem?_cons_zero]; try exact rfl)); (case hw => rfl); (case hl => rfl); (case hsp => rfl); (case he => rfl); (case hv => (intro w' hw'; (try have hw2 := Ext.trans hEW hw'); go_simp; exact rfl)); simp only [Act.put, List.setIfInBounds_toArray, List.set_cons_succ, List.set_cons_zero]) | (apply wpR_pass; (case ho => (simp only [List.getElem?_toArray, List.getElem?_cons_succ, List.getElem?_cons_zero]; try exact rfl)); (case hw => rfl); (case hl => rfl); simp only [Act.put, List.setIfInBounds_toArray, List.set_cons_succ, List.set_cons_zero]))
  refine wpR_late (by ((simp only [List.getElem?_toArray, List.getElem?_cons_succ, List.getElem?_cons_zero]; try exact rfl))) _ rfl rfl (fun V v w' w2 h he => ⟨he.blk h.1, he.blk h.2⟩) (fun V V' h => rfl) (fun w' hw' hK hF => ?_) (fun v hv => ?_)
  · refine opAt_list rfl #[] (fun Q hQ => ?_)
    refine wpList_store_box rfl 32 _ _ rfl (w.heap.size + 1) _ rfl rfl 32 _ hF.1 (by kernel_rfl) rfl (by simp [Value.oneCell']) (fun w2 hb hg => ?_)
    exact hQ _ _ ⟨Exc.of_only hg (fun _ _ => .inl rfl), hb, blk_other hF.2 hg (by omega)⟩
  clear hv
  simp only [Act.put, List.setIfInBounds_toArray, List.set_cons_succ, List.set_cons_zero]
  refine wpR_late (by ((simp only [List.getElem?_toArray, List.getElem?_cons_succ, List.getElem?_cons_zero]; try exact rfl))) _ rfl rfl (fun V v w' w2 h he => ⟨he.blk h.1, he.blk h.2⟩) (fun V V' h => rfl) (fun w' hw' hK hF => ?_) (fun v hv => ?_)
  · refine opAt_list rfl #[] (fun Q hQ => ?_)
    refine wpList_store_box rfl 32 _ _ rfl (w.heap.size + 1 + 1) _ rfl rfl 32 _ hF.2 (by kernel_rfl) rfl (by simp [Value.oneCell']) (fun w2 hb hg => ?_)
    exact hQ _ _ ⟨Exc.of_only hg (fun _ _ => .inr rfl), blk_other hF.1 hg (by omega), hb⟩
  clear hv
  apply wpR_nil
  apply hN
  intro w9 hE9 hK hF
  obtain ⟨r1, r2⟩ := hF
  have hx9 := hEW.trans hE9
  have hE' : Ext w w9 := hx9.to_ext hE (fun k _ hk => by omega)
  have o1 := ownsRow_exc8 O1.out hx9 (fun k cs h1 h2 => by omega)
  have o2 := ownsRow_exc8 O2.out hx9 (fun k cs h1 h2 => by omega)
  have o3 := ownsRow_exc8 O3.out hx9 (fun k cs h1 h2 => by omega)
  have o4 := ownsRow_exc8 O4.out hx9 (fun k cs h1 h2 => by omega)
  have K1 := Lib.hid (o1.mono (B' := w.heap.size) (by omega))
  have K2 := Lib.hid (o2.mono (B' := w.heap.size) (by omega))
  have K3 := Lib.hid (o3.mono (B' := w.heap.size) (by omega))
  have K4 := Lib.hid (o4.mono (B' := w.heap.size) (by omega))
  clear hK hN x0 x1 x2 y0 y1 y2 hEW hE9 hx9 hW hF0 o1 o2 o3 o4
  go_wp2
  exact bodyPost_ret (results_rr rfl _ _ _ _ _ _ _ _ _ _ _ _ rfl r1 Try.underlying32 rfl (by kernel_rfl) rfl r2 Try.underlying32 rfl (by kernel_rfl)) rfl ⟨_, _, _, _, _, _, _, _, _, _, rfl, rfl, rfl, K1.out, K2.out, K3.out, K4.out, hE'⟩
set_option maxRecDepth 100000 in
set_option maxHeartbeats 2000000 in
theorem split_false {aA aB C : Option Addr} {ac ad f n : Nat} {a ah k : List UInt8} {w : World} (ha : Sl w aA ac a) (hah : Sl w aB ad ah) (hk : Sl w C f k) (hn : n = k.length) :
    Calls Try.prog 32 #[.agg #[.slice aA a.length ac, .slice aB ah.length ad, .bool false], .slice C n f] w fun e w' => ∃ A c B d A2 c2 B2 d2 r s, r = lowB ⟨a, ah, false⟩ k ∧ s = highB ⟨a, ah, false⟩ k ∧
      e = .returned (.tuple #[.agg #[.slice A r.lo.length c, .slice B r.hi.length d, .bool r.op], .agg #[.slice A2 s.lo.length c2, .slice B2 s.hi.length d2, .bool s.op]]) ∧
      Own 5 w.heap.size w' A c r.lo ∧ Own 5 w.heap.size w' B d r.hi ∧ Own 5 w.heap.size w' A2 c2 s.lo ∧ Own 5 w.heap.size w' B2 d2 s.hi ∧ Ext w w' := by
  subst hn
  have hla := ha.len
  have hlh := hah.len
  have hlk := hk.len
  go_enter Try.func32, Try.ntmps32
  go_wp2
  refine wp_cut (fun W => Ext w W ∧ W.heap[w.heap.size]? = some (.cells #[.slice aA a.length ac, .slice aB ah.length ad, .bool false] 32) ∧ W.heap[w.heap.size + 1]? = some (.cells #[.slice none 0 0, .slice none 0 0, .bool false] 32) ∧ W.heap[w.heap.size + 1 + 1]? = some (.cells #[.slice none 0 0, .slice none 0 0, .bool false] 32)) ⟨((ext_alloc _ _).trans (ext_alloc _ _)).trans (ext_alloc _ _), (ext_alloc _ _).blk (heap_alloc2_old _ _ _), (ext_alloc _ _).blk (heap_alloc2_new _ _ _), by rw [show w.heap.size + 1 + 1 = ((w.alloc _).alloc _).heap.size by simp]; exact heap_alloc_new _ _⟩ ?_
  rintro w1 ⟨hE, b0, b1, b2⟩
  have H0 := Lib.hid b0
  have H4 := Lib.hid b1
  have H5 := Lib.hid b2
  have hw1 : w.heap.size + 1 + 1 < w1.heap.size := (Array.getElem?_eq_some_iff.1 b2).1
  clear b0 b1 b2
  refine wp_region_rg (Exk (RgBlk w1.heap.size)) (rel_exk _) (fun _ => True) [0, 1, 2, 3, 4, 5, 6, 7, 8, 9, 10, 11, 12, 13, 14] (fun i => match i with
    | 2 => some fun V => SOwn 5 w1.heap.size a
    | 7 => some fun V => SOwn 5 w1.heap.size (maxB a k)
    | 11 => some fun V => RgCell w1.heap.size
    | 12 => some fun V => RgCell w1.heap.size
    | _ => none) (fun i => match i with
    | 13 => some fun V _ => RgAt w1.heap.size (V 2) (.slice none 0 0) (.bool false) (V 11)
    | 14 => some fun V _ w' => RgAt w1.heap.size (V 2) (.slice none 0 0) (.bool false) (V 11) w' ∧ RgAt w1.heap.size (V 7) (.slice none 0 0) (.bool false) (V 12) w' ∧ V 11 ≠ V 12
    | _ => none) (fun _ => false) (by kernel_rfl) (by kernel_rfl) (fun _ _ h he => trivial) trivial (fun W N hW hF0 hN => ?_)
  have hEW : Exk (RgBlk w1.heap.size) w1 W := Exk.of_ext hW
  have hX : ∀ w', Exk (RgBlk w1.heap.size) W w' → Ext w w' := fun w' h => (Exk.trans hEW h).x.to_ext hE (fun k _ hk => by have := hk.1; omega)
  have e0 : ∀ w', Exk (RgBlk w1.heap.size) w1 w' → w'.cell? ⟨w.heap.size, 0, none⟩ = some (.slice aA a.length ac) := fun w' h => cell_of_row _ _ _ _ _ _ (h.x.blk H0.out (RgBlk.notLt (by omega)))
  have e1 : ∀ w', Exk (RgBlk w1.heap.size) w1 w' → w'.cell? ⟨w.heap.size, 1, none⟩ = some (.slice aB ah.length ad) := fun w' h => cell_of_row _ _ _ _ _ _ (h.x.blk H0.out (RgBlk.notLt (by omega)))
  have e2 : ∀ w', Exk (RgBlk w1.heap.size) w1 w' → w'.cell? ⟨w.heap.size, 2, none⟩ = some (.bool false) := fun w' h => cell_of_row _ _ _ _ _ _ (h.x.blk H0.out (RgBlk.notLt (by omega)))
  repeat (first | (apply wpR_one; (case ho => (simp only [List.getElem?_toArray, List.getElem?_cons_succ, List.getElem?_cons_zero]; try exact rfl)); (case hw => rfl); (case hl => rfl); (case hsp => rfl); (case he => rfl); (case hv => (intro w' hw'; (try (have hw2 := Ext.trans hEW hw')); (try (have hw3 := Exc.trans hEW hw')); (try (have hw4 := Exk.trans hEW hw')); (try (have hw5 := Mrk.trans hEW hw')); go_simp; exact rfl)); (case hw0 => (first | exact Below.refl _ _ | exact Exc.of_ext (Below.refl _ _) | exact Exk.of_ext (Below.refl _ _) | exact Mrk.of_ext (Below.refl _ _))); simp only [Act.put, List.setIfInBounds_toArray, List.set_cons_succ, List.set_cons_zero]) | (apply wpR_early; (case ho => (simp only [List.getElem?_toArray, List.getElem?_cons_succ, List.getElem?_cons_zero]; try exact rfl)); (case hw => rfl); (case hl => rfl); (case hsp => rfl); (case he => rfl); (case hv => (intro w' hw'; (try have hw2 := Ext.trans hEW hw'); go_simp; exact rfl)); simp only [Act.put, List.setIfInBounds_toArray, List.set_cons_succ, List.set_cons_zero]) | (apply wpR_pass; (case ho => (simp only [List.getElem?_toArray, List.getElem?_cons_succ, List.getElem?_cons_zero]; try exact rfl)); (case hw => rfl); (case hl => rfl); simp only [Act.put, List.setIfInBounds_toArray, List.set_cons_succ, List.set_cons_zero]))
  refine wpR_new (by ((simp only [List.getElem?_toArray, List.getElem?_cons_succ, List.getElem?_cons_zero]; try exact rfl))) _ rfl rfl rfl (fun V v => SOwn.lastsRg _ _) (fun V V' h => rfl) (fun w' hw' hK => ?_) (fun v hv => ?_)
  · have HX := Lib.hid (hX w' hw')
    have hs := (hEW.trans hw').x.size
    clear hK
    unfold opAt; go_simp; refine upAt_enter ?_
    refine (fresh0_any (ha.ext HX.out) rfl).mono ?_
    rintro e w9 ⟨g, rfl, hg, hbk, hE9⟩
    exact ⟨_, rfl, hE9, _, _, rfl, (hbk.whole hg (by omega)).mono hs⟩
  obtain ⟨A1, c1, rfl⟩ : ∃ A c, v = .slice A a.length c := by
    obtain ⟨_, _, _, A, c, h, _⟩ := hv
    exact ⟨A, c, h⟩
  clear hv
  simp only [Act.put, List.setIfInBounds_toArray, List.set_cons_succ, List.set_cons_zero]
  repeat (first | (apply wpR_one; (case ho => (simp only [List.getElem?_toArray, List.getElem?_cons_succ, List.getElem?_cons_zero]; try exact rfl)); (case hw => rfl); (case hl => rfl); (case hsp => rfl); (case he => rfl); (case hv => (intro w' hw'; (try (have hw2 := Ext.trans hEW hw')); (try (have hw3 := Exc.trans hEW hw')); (try (have hw4 := Exk.trans hEW hw')); (try (have hw5 := Mrk.trans hEW hw')); go_simp; exact rfl)); (case hw0 => (first | exact Below.refl _ _ | exact Exc.of_ext (Below.refl _ _) | exact Exk.of_ext (Below.refl _ _) | exact Mrk.of_ext (Below.refl _ _))); simp only [Act.put, List.setIfInBounds_toArray, List.set_cons_succ, List.set_cons_zero]) | (apply wpR_early; (case ho => (simp only [List.getElem?_toArray, List.getElem?_cons_succ, List.getElem?_cons_zero]; try exact rfl)); (case hw => rfl); (case hl => rfl); (case hsp => rfl); (case he => rfl); (case hv => (intro w' hw'; (try have hw2 := Ext.trans hEW hw'); go_simp; exact rfl)); simp only [Act.put, List.setIfInBounds_toArray, List.set_cons_succ, List.set_cons_zero]) | (apply wpR_pass; (case ho => (simp only [List.getElem?_toArray, List.getElem?_cons_succ, List.getElem?_cons_zero]; try exact rfl)); (case hw => rfl); (case hl => rfl); simp only [Act.put, List.setIfInBounds_toArray, List.set_cons_succ, List.set_cons_zero]))
  refine wpR_new (by ((simp only [List.getElem?_toArray, List.getElem?_cons_succ, List.getElem?_cons_zero]; try exact rfl))) _ rfl rfl rfl (fun V v => SOwn.lastsRg _ _) (fun V V' h => rfl) (fun w' hw' hK => ?_) (fun v hv => ?_)
  · have HX := Lib.hid (hX w' hw')
    have hs := (hEW.trans hw').x.size
    clear hK
    unfold opAt; go_simp; refine upAt_enter ?_
    refine (more_any (ha.ext HX.out) (hk.ext HX.out) rfl rfl).mono ?_
    rintro e w9 ⟨A, c, rfl, ho, hE9⟩
    exact ⟨_, rfl, hE9, A, c, rfl, ho.mono hs⟩
  obtain ⟨A2, c2, rfl⟩ : ∃ A c, v = .slice A (maxB a k).length c := by
    obtain ⟨_, _, _, A, c, h, _⟩ := hv
    exact ⟨A, c, h⟩
  clear hv
  simp only [Act.put, List.setIfInBounds_toArray, List.set_cons_succ, List.set_cons_zero]
  repeat (first | (apply wpR_one; (case ho => (simp only [List.getElem?_toArray, List.getElem?_cons_succ, List.getElem?_cons_zero]; try exact rfl)); (case hw => rfl); (case hl => rfl); (case hsp => rfl); (case he => rfl); (case hv => (intro w' hw'; (try (have hw2 := Ext.trans hEW hw')); (try (have hw3 := Exc.trans hEW hw')); (try (have hw4 := Exk.trans hEW hw')); (try (have hw5 := Mrk.trans hEW hw')); go_simp; exact rfl)); (case hw0 => (first | exact Below.refl _ _ | exact Exc.of_ext (Below.refl _ _) | exact Exk.of_ext (Below.refl _ _) | exact Mrk.of_ext (Below.refl _ _))); simp only [Act.put, List.setIfInBounds_toArray, List.set_cons_succ, List.set_cons_zero]) | (apply wpR_early; (case ho => (simp only [List.getElem?_toArray, List.getElem?_cons_succ, List.getElem?_cons_zero]; try exact rfl)); (case hw => rfl); (case hl => rfl); (case hsp => rfl); (case he => rfl); (case hv => (intro w' hw'; (try have hw2 := Ext.trans hEW hw'); go_simp; exact rfl)); simp only [Act.put, List.setIfInBounds_toArray, List.set_cons_succ, List.set_cons_zero]) | (apply wpR_pass; (case ho => (simp only [List.getElem?_toArray, List.getElem?_cons_succ, List.getElem?_cons_zero]; try exact rfl)); (case hw => rfl); (case hl => rfl); simp only [Act.put, List.setIfInBounds_toArray, List.set_cons_succ, List.set_cons_zero]))
  refine wpR_alloc (by ((simp only [List.getElem?_toArray, List.getElem?_cons_succ, List.getElem?_cons_zero]; try exact rfl))) _ rfl rfl rfl (fun V v => RgCell.lasts _ _) (fun V V' h => rfl) (fun w' hw' hK => ?_) (fun v hv => ?_)
  · have hXs := (hEW.trans hw').x.size
    unfold opAt
    go_simp
    exact upAt_value ⟨ext_alloc _ _, ⟨_, rfl, hXs, _, heap_alloc_new _ _, rfl⟩, fun _ g hg => by injection hg with hg; exact ⟨hg.symm, by simp⟩⟩
  obtain ⟨g6, rfl⟩ : ∃ g, v = .pointer (some ⟨g, 0, none⟩) := by
    obtain ⟨_, _, _, g, e, _⟩ := hv
    exact ⟨g, e⟩
  clear hv
  simp only [Act.put, List.setIfInBounds_toArray, List.set_cons_succ, List.set_cons_zero]
  refine wpR_alloc (by ((simp only [List.getElem?_toArray, List.getElem?_cons_succ, List.getElem?_cons_zero]; try exact rfl))) _ rfl rfl rfl (fun V v => RgCell.lasts _ _) (fun V V' h => rfl) (fun w' hw' hK => ?_) (fun v hv => ?_)
  · have hXs := (hEW.trans hw').x.size
    unfold opAt
    go_simp
    exact upAt_value ⟨ext_alloc _ _, ⟨_, rfl, hXs, _, heap_alloc_new _ _, rfl⟩, fun _ g hg => by injection hg with hg; exact ⟨hg.symm, by simp⟩⟩
  obtain ⟨g7, rfl⟩ : ∃ g, v = .pointer (some ⟨g, 0, none⟩) := by
    obtain ⟨_, _, _, g, e, _⟩ := hv
    exact ⟨g, e⟩
  clear hv
  simp only [Act.put, List.setIfInBounds_toArray, List.set_cons_succ, List.set_cons_zero]
  refine wpR_late (by ((simp only [List.getElem?_toArray, List.getElem?_cons_succ, List.getElem?_cons_zero]; try exact rfl))) _ rfl rfl (fun V v w' w2 h he => h.ext he) (fun V V' h => by simp only [h 2 (by kernel_rfl), h 11 (by kernel_rfl)]) (fun w' hw' hK hF => ?_) (fun v hv => ?_)
  · obtain ⟨g, e8, hg8, cs, hb8, hs8⟩ := (hK 11 (by kernel_rfl)).2
    obtain rfl := ptrR_inj (show Value.pointer (some ⟨g6, 0, none⟩) = _ from e8)
    refine opAt_list rfl #[] (fun Q hQ => ?_)
    refine wpList_store_box rfl 32 _ _ rfl g6 _ rfl rfl 32 _ hb8 (by kernel_rfl) hs8 (by simp [Value.oneCell']) (fun w2 hb hg => ?_)
    exact hQ _ _ ⟨Exk.of_only hg hb8 hb (by rw [hs8]; rfl) ⟨hg8, _, _, rfl⟩, ⟨g6, rfl, hg8, hb⟩⟩
  clear hv
  simp only [Act.put, List.setIfInBounds_toArray, List.set_cons_succ, List.set_cons_zero]
  refine wpR_lateP (by ((simp only [List.getElem?_toArray, List.getElem?_cons_succ, List.getElem?_cons_zero]; try exact rfl))) _ rfl rfl (fun V v w' w2 h he => ⟨h.1.ext he, h.2.1.ext he, h.2.2⟩) (fun V V' h => by simp only [h 2 (by kernel_rfl), h 11 (by kernel_rfl), h 7 (by kernel_rfl), h 12 (by kernel_rfl)]) (fun w' hw' hK hF hP => ?_) (fun v hv => ?_)
  · obtain ⟨g, e9, hg9, cs, hb9, hs9⟩ := (hK 12 (by kernel_rfl)).2
    obtain rfl := ptrR_inj (show Value.pointer (some ⟨g7, 0, none⟩) = _ from e9)
    have hne : g6 ≠ g7 := fun e => hP 11 12 (by kernel_rfl) (by kernel_rfl) (by decide) (by kernel_rfl) (by kernel_rfl) g6 rfl (by rw [e]; rfl)
    obtain ⟨g', e10, hg10, hb10⟩ := hF
    obtain rfl := ptrR_inj (show Value.pointer (some ⟨g6, 0, none⟩) = _ from e10)
    refine opAt_list rfl #[] (fun Q hQ => ?_)
    refine wpList_store_box rfl 32 _ _ rfl g7 _ rfl rfl 32 _ hb9 (by kernel_rfl) hs9 (by simp [Value.oneCell']) (fun w2 hb hg => ?_)
    exact hQ _ _ ⟨Exk.of_only hg hb9 hb (by rw [hs9]; rfl) ⟨hg9, _, _, rfl⟩, ⟨g6, rfl, hg10, blk_other hb10 hg hne⟩, ⟨g7, rfl, hg9, hb⟩, fun e => hne (ptrR_inj (show Value.pointer (some ⟨g6, 0, none⟩) = Value.pointer (some ⟨g7, 0, none⟩) from e))⟩
  clear hv
  apply wpR_nil
  apply hN
  intro w2 hE' hK hF
  have hx := (hEW.trans hE').x
  have k1 : SOwn 5 w1.heap.size a (.slice A1 a.length c1) w2 := (hK 2).2
  have k2 : SOwn 5 w1.heap.size (maxB a k) (.slice A2 (maxB a k).length c2) w2 := (hK 7).2
  obtain ⟨s1, s2, s3⟩ := hF
  obtain ⟨_, x1, x2, x3⟩ := s1
  obtain rfl := ptrR_inj (show Value.pointer (some ⟨g6, 0, none⟩) = _ from x1)
  obtain ⟨_, y1, y2, y3⟩ := s2
  obtain rfl := ptrR_inj (show Value.pointer (some ⟨g7, 0, none⟩) = _ from y1)
  have hne : g6 ≠ g7 := fun e => s3 (by rw [e]; rfl)
  have O1 := Lib.hid (Own.mono k1.own (B' := w.heap.size + 3) (by omega))
  have O3 := Lib.hid (Own.mono k2.own (B' := w.heap.size + 3) (by omega))
  have h6 : w2.heap[g6]? = some (.cells #[.slice A1 a.length c1, .slice none 0 0, .bool false] 32) := x3
  have h7 : w2.heap[g7]? = some (.cells #[.slice A2 (maxB a k).length c2, .slice none 0 0, .bool false] 32) := y3
  have H6 := Lib.hid h6
  have H7 := Lib.hid h7
  have hE2 := hX w2 hE'
  replace H0 := Lib.hid (hx.blk H0.out (RgBlk.notLt (by omega)))
  replace H4 := Lib.hid (hx.blk H4.out (RgBlk.notLt (by omega)))
  replace H5 := Lib.hid (hx.blk H5.out (RgBlk.notLt (by omega)))
  have hg6 : w.heap.size + 3 ≤ g6 := by omega
  have hg7 : w.heap.size + 3 ≤ g7 := by omega
  have hw2 : w.heap.size + 3 ≤ w2.heap.size := by have := hx.size; omega
  clear hK hN k1 k2 s3 x1 y1 x3 y3 h6 h7 hx hE hX hEW hE' hW hF0 e0 e1 e2
  have hE := hE2
  clear hE2
  have e2 := cell_of_row w2 w.heap.size 2 _ _ _ H0.out
  simp at e2
  go_wp2
  clear e2
  have hR8 : ∀ q cs, w2.heap[q]? = some (.cells cs 5 (0, 0)) → ¬ (q = g6 ∨ q = g7) := fun q cs h e => by
    rcases e with e | e
    · subst e
      rw [H6.out] at h
      injection h with h
      injection h with _ e
      exact absurd e (by decide)
    · subst e
      rw [H7.out] at h
      injection h with h
      injection h with _ e
      exact absurd e (by decide)
  refine wp_region_rg (Exc (fun k _ => k = g6 ∨ k = g7)) (rel_exc _) (fun w' => w'.heap[g6]? = some (.cells #[.slice A1 a.length c1, .slice none 0 0, .bool false] 32) ∧ w'.heap[g7]? = some (.cells #[.slice A2 (maxB a k).length c2, .slice none 0 0, .bool false] 32)) [0, 1, 2, 3, 4, 5, 6, 7, 8, 9, 10] (fun i => match i with
    | 3 => some fun V => SOwn 5 w2.heap.size (minB ah k)
    | 6 => some fun V => SOwn 5 w2.heap.size ah
    | _ => none) (fun i => match i with
    | 8 => some fun V _ w' => w'.heap[g6]? = some (.cells #[.slice A1 a.length c1, V 3, .bool false] 32) ∧ w'.heap[g7]? = some (.cells #[.slice A2 (maxB a k).length c2, .slice none 0 0, .bool false] 32)
    | 10 => some fun V _ w' => w'.heap[g6]? = some (.cells #[.slice A1 a.length c1, V 3, .bool false] 32) ∧ w'.heap[g7]? = some (.cells #[.slice A2 (maxB a k).length c2, V 6, .bool false] 32)
    | _ => none) (fun _ => false) (by kernel_rfl) (by kernel_rfl) (fun _ _ h he => ⟨he.blk h.1, he.blk h.2⟩) ⟨H6.out, H7.out⟩ (fun W N hW hF0 hN => ?_)
  have hEW : Exc (fun k _ => k = g6 ∨ k = g7) w2 W := Exc.of_ext hW
  have hX : ∀ w', Exc (fun k _ => k = g6 ∨ k = g7) W w' → Ext w w' := fun w' h => (Exc.trans hEW h).to_ext hE (fun k _ hk => by omega)
  have hl6 : g6 < w2.heap.size := (Array.getElem?_eq_some_iff.1 H6.out).1
  have hl7 : g7 < w2.heap.size := (Array.getElem?_eq_some_iff.1 H7.out).1
  have hLS : ∀ (bs : List UInt8) (v : Value), Lasts (Exc (fun k _ => k = g6 ∨ k = g7)) (SOwn 5 w2.heap.size bs v) := fun bs v x y ⟨A, c, hv, ho⟩ hx => ⟨A, c, hv, ownsRow_exc8 ho hx (fun k cs h1 h2 => by omega)⟩
  have e0 : ∀ w', Exc (fun k _ => k = g6 ∨ k = g7) w2 w' → w'.cell? ⟨w.heap.size, 0, none⟩ = some (.slice aA a.length ac) := fun w' h => cell_of_row _ _ _ _ _ _ (h.blk H0.out (by omega))
  have e1 : ∀ w', Exc (fun k _ => k = g6 ∨ k = g7) w2 w' → w'.cell? ⟨w.heap.size, 1, none⟩ = some (.slice aB ah.length ad) := fun w' h => cell_of_row _ _ _ _ _ _ (h.blk H0.out (by omega))
  have e2 : ∀ w', Exc (fun k _ => k = g6 ∨ k = g7) w2 w' → w'.cell? ⟨w.heap.size, 2, none⟩ = some (.bool false) := fun w' h => cell_of_row _ _ _ _ _ _ (h.blk H0.out (by omega))
  repeat (first | (apply wpR_one; (case ho => (simp only [List.getElem?_toArray, List.getElem?_cons_succ, List.getElem?_cons_zero]; try exact rfl)); (case hw => rfl); (case hl => rfl); (case hsp => rfl); (case he => rfl); (case hv => (intro w' hw'; (try (have hw2 := Ext.trans hEW hw')); (try (have hw3 := Exc.trans hEW hw')); (try (have hw4 := Exk.trans hEW hw')); (try (have hw5 := Mrk.trans hEW hw')); go_simp; exact rfl)); (case hw0 => (first | exact Below.refl _ _ | exact Exc.of_ext (Below.refl _ _) | exact Exk.of_ext (Below.refl _ _) | exact Mrk.of_ext (Below.refl _ _))); simp only [Act.put, List.setIfInBounds_toArray, List.set_cons_succ, List.set_cons_zero]) | (apply wpR_early; (case ho => (simp only [List.getElem?_toArray, List.getElem?_cons_succ, List.getElem?_cons_zero]; try exact rfl)); (case hw => rfl); (case hl => rfl); (case hsp => rfl); (case he => rfl); (case hv => (intro w' hw'; (try have hw2 := Ext.trans hEW hw'); go_simp; exact rfl)); simp only [Act.put, List.setIfInBounds_toArray, List.set_cons_succ, List.set_cons_zero]) | (apply wpR_pass; (case ho => (simp only [List.getElem?_toArray, List.getElem?_cons_succ, List.getElem?_cons_zero]; try exact rfl)); (case hw => rfl); (case hl => rfl); simp only [Act.put, List.setIfInBounds_toArray, List.set_cons_succ, List.set_cons_zero]))
  refine wpR_new (by ((simp only [List.getElem?_toArray, List.getElem?_cons_succ, List.getElem?_cons_zero]; try exact rfl))) _ rfl rfl rfl (fun V v => hLS _ _) (fun V V' h => rfl) (fun w' hw' hK => ?_) (fun v hv => ?_)
  · have HX := Lib.hid (hX w' hw')
    have hs := (hEW.trans hw').size
    clear hK
    unfold opAt; go_simp; refine upAt_enter ?_
    refine (less_any (hah.ext HX.out) (hk.ext HX.out) rfl rfl).mono ?_
    rintro e w9 ⟨A, c, rfl, ho, hE9⟩
    exact ⟨_, rfl, hE9, A, c, rfl, ho.mono hs⟩
  obtain ⟨A5, c5, rfl⟩ : ∃ A c, v = .slice A (minB ah k).length c := by
    obtain ⟨_, _, _, A, c, h, _⟩ := hv
    exact ⟨A, c, h⟩
  clear hv
  simp only [Act.put, List.setIfInBounds_toArray, List.set_cons_succ, List.set_cons_zero]
  repeat (first | (apply wpR_one; (case ho => (simp only [List.getElem?_toArray, List.getElem?_cons_succ, List.getElem?_cons_zero]; try exact rfl)); (case hw => rfl); (case hl => rfl); (case hsp => rfl); (case he => rfl); (case hv => (intro w' hw'; (try (have hw2 := Ext.trans hEW hw')); (try (have hw3 := Exc.trans hEW hw')); (try (have hw4 := Exk.trans hEW hw')); (try (have hw5 := Mrk.trans hEW hw')); go_simp; exact rfl)); (case hw0 => (first | exact Below.refl _ _ | exact Exc.of_ext (Below.refl _ _) | exact Exk.of_ext (Below.refl _ _) | exact Mrk.of_ext (Below.refl _ _))); simp only [Act.put, List.setIfInBounds_toArray, List.set_cons_succ, List.set_cons_zero]) | (apply wpR_early; (case ho => (simp only [List.getElem?_toArray, List.getElem?_cons_succ, List.getElem?_cons_zero]; try exact rfl)); (case hw => rfl); (case hl => rfl); (case hsp => rfl); (case he => rfl); (case hv => (intro w' hw'; (try have hw2 := Ext.trans hEW hw'); go_simp; exact rfl)); simp only [Act.put, List.setIfInBounds_toArray, List.set_cons_succ, List.set_cons_zero]) | (apply wpR_pass; (case ho => (simp only [List.getElem?_toArray, List.getElem?_cons_succ, List.getElem?_cons_zero]; try exact rfl)); (case hw => rfl); (case hl => rfl); simp only [Act.put, List.setIfInBounds_toArray, List.set_cons_succ, List.set_cons_zero]))
  refine wpR_new (by ((simp only [List.getElem?_toArray, List.getElem?_cons_succ, List.getElem?_cons_zero]; try exact rfl))) _ rfl rfl rfl (fun V v => hLS _ _) (fun V V' h => rfl) (fun w' hw' hK => ?_) (fun v hv => ?_)
  · have HX := Lib.hid (hX w' hw')
    have hs := (hEW.trans hw').size
    clear hK
    unfold opAt; go_simp; refine upAt_enter ?_
    refine (fresh0_any (hah.ext HX.out) rfl).mono ?_
    rintro e w9 ⟨g, rfl, hg, hbk, hE9⟩
    exact ⟨_, rfl, hE9, _, _, rfl, (hbk.whole hg (by omega)).mono hs⟩
  obtain ⟨A6, c6, rfl⟩ : ∃ A c, v = .slice A ah.length c := by
    obtain ⟨_, _, _, A, c, h, _⟩ := hv
    exact ⟨A, c, h⟩
  clear hv
  simp only [Act.put, List.setIfInBounds_toArray, List.set_cons_succ, List.set_cons_zero]
  repeat (first | (apply wpR_one; (case ho => (simp only [List.getElem?_toArray, List.getElem?_cons_succ, List.getElem?_cons_zero]; try exact rfl)); (case hw => rfl); (case hl => rfl); (case hsp => rfl); (case he => rfl); (case hv => (intro w' hw'; (try (have hw2 := Ext.trans hEW hw')); (try (have hw3 := Exc.trans hEW hw')); (try (have hw4 := Exk.trans hEW hw')); (try (have hw5 := Mrk.trans hEW hw')); go_simp; exact rfl)); (case hw0 => (first | exact Below.refl _ _ | exact Exc.of_ext (Below.refl _ _) | exact Exk.of_ext (Below.refl _ _) | exact Mrk.of_ext (Below.refl _ _))); simp only [Act.put, List.setIfInBounds_toArray, List.set_cons_succ, List.set_cons_zero]) | (apply wpR_early; (case ho => (simp only [List.getElem?_toArray, List.getElem?_cons_succ, List.getElem?_cons_zero]; try exact rfl)); (case hw => rfl); (case hl => rfl); (case hsp => rfl); (case he => rfl); (case hv => (intro w' hw'; (try have hw2 := Ext.trans hEW hw'); go_simp; exact rfl)); simp only [Act.put, List.setIfInBounds_toArray, List.set_cons_succ, List.set_cons_zero]) | (apply wpR_pass; (case ho => (simp only [List.getElem?_toArray, List.getElem?_cons_succ, List.getElem?_cons_zero]; try exact rfl)); (case hw => rfl); (case hl => rfl); simp only [Act.put, List.setIfInBounds_toArray, List.set_cons_succ, List.set_cons_zero]))
  refine wpR_late (by ((simp only [List.getElem?_toArray, List.getElem?_cons_succ, List.getElem?_cons_zero]; try exact rfl))) _ rfl rfl (fun V v w' w2 h he => ⟨he.blk h.1, he.blk h.2⟩) (fun V V' h => by simp only [h 3 (by kernel_rfl)]) (fun w' hw' hK hF => ?_) (fun v hv => ?_)
  · obtain ⟨hF1, hF2⟩ := hF
    have d1 := cell_of_row w' g6 1 _ _ _ hF1
    have f1 := frozen_of_row w' g6 1 _ _ hF1
    simp at d1
    have hn := heap_setCell_same w' g6 1 _ _ (.slice A5 (minB ah k).length c5) hF1
    simp only [List.setIfInBounds_toArray, List.set_cons_succ, List.set_cons_zero] at hn
    have hex := setCell_excR w' g6 1 (.slice A5 (minB ah k).length c5)
    have HN := Lib.hid hn
    have HX := Lib.hid hex
    have HO := Lib.hid (hex.blk hF2 (fun e => hne e.symm))
    clear hF1 hF2 hn hex hK e0 e1 e2
    unfold opAt
    go_simp
    exact upAt_skip ⟨⟨HX.out.os, HX.out.tape, HX.out.output, HX.out.size, fun q o hq hnq => HX.out.blk hq (fun e => hnq (.inl e))⟩, HN.out, HO.out⟩
  clear hv
  simp only [Act.put, List.setIfInBounds_toArray, List.set_cons_succ, List.set_cons_zero]
  repeat (first | (apply wpR_one; (case ho => (simp only [List.getElem?_toArray, List.getElem?_cons_succ, List.getElem?_cons_zero]; try exact rfl)); (case hw => rfl); (case hl => rfl); (case hsp => rfl); (case he => rfl); (case hv => (intro w' hw'; (try (have hw2 := Ext.trans hEW hw')); (try (have hw3 := Exc.trans hEW hw')); (try (have hw4 := Exk.trans hEW hw')); (try (have hw5 := Mrk.trans hEW hw')); go_simp; exact rfl)); (case hw0 => (first | exact Below.refl _ _ | exact Exc.of_ext (Below.refl _ _) | exact Exk.of_ext (Below.refl _ _) | exact Mrk.of_ext (Below.refl _ _))); simp only [Act.put, List.setIfInBounds_toArray, List.set_cons_succ, List.set_cons_zero]) | (apply wpR_early; (case ho => (simp only [List.getElem?_toArray, List.getElem?_cons_succ, List.getElem?_cons_zero]; try exact rfl)); (case hw => rfl); (case hl => rfl); (case hsp => rfl); (case he => rfl); (case hv => (intro w' hw'; (try have hw2 := Ext.trans hEW hw'); go_simp; exact rfl)); simp only [Act.put, List.setIfInBounds_toArray, List.set_cons_succ, List.set_cons_zero]) | (apply wpR_pass; (case ho => (simp only [List.getElem?_toArray, List.getElem?_cons_succ, List.getElem?_cons_zero]; try exact rfl)); (case hw => rfl); (case hl => rfl); simp only [Act.put, List.setIfInBounds_toArray, List.set_cons_succ, List.set_cons_zero]))
  refine wpR_late (by ((simp only [List.getElem?_toArray, List.getElem?_cons_succ, List.getElem?_cons_zero]; try exact rfl))) _ rfl rfl (fun V v w' w2 h he => ⟨he.blk h.1, he.blk h.2⟩) (fun V V' h => by simp only [h 3 (by kernel_rfl), h 6 (by kernel_rfl)]) (fun w' hw' hK hF => ?_) (fun v hv => ?_)
  · obtain ⟨hF1, hF2⟩ := hF
    have d1 := cell_of_row w' g7 1 _ _ _ hF2
    have f1 := frozen_of_row w' g7 1 _ _ hF2
    simp at d1
    have hn := heap_setCell_same w' g7 1 _ _ (.slice A6 ah.length c6) hF2
    simp only [List.setIfInBounds_toArray, List.set_cons_succ, List.set_cons_zero] at hn
    have hex := setCell_excR w' g7 1 (.slice A6 ah.length c6)
    have HN := Lib.hid hn
    have HX := Lib.hid hex
    have HO := Lib.hid (hex.blk hF1 (fun e => hne e))
    clear hF1 hF2 hn hex hK e0 e1 e2
    unfold opAt
    go_simp
    exact upAt_skip ⟨⟨HX.out.os, HX.out.tape, HX.out.output, HX.out.size, fun q o hq hnq => HX.out.blk hq (fun e => hnq (.inr e))⟩, HO.out, HN.out⟩
  clear hv
  apply wpR_nil
  apply hN
  intro w5 hE' hK hF
  have hx5 := hEW.trans hE'
  have k3 : SOwn 5 w2.heap.size (minB ah k) (.slice A5 (minB ah k).length c5) w5 := (hK 3).2
  have k6 : SOwn 5 w2.heap.size ah (.slice A6 ah.length c6) w5 := (hK 6).2
  obtain ⟨hF1, hF2⟩ := hF
  have h6 : w5.heap[g6]? = some (.cells #[.slice A1 a.length c1, .slice A5 (minB ah k).length c5, .bool false] 32) := hF1
  have h7 : w5.heap[g7]? = some (.cells #[.slice A2 (maxB a k).length c2, .slice A6 ah.length c6, .bool false] 32) := hF2
  have hE5 := hX w5 hE'
  have hx8 : ∀ {A : Option Addr} {c : Nat} {bs : List UInt8}, Own 5 (w.heap.size + 3) w2 A c bs → Own 5 (w.heap.size + 3) w5 A c bs := fun {A c bs} h => by
    refine ⟨h.1, ?_⟩
    rcases h.2 with h0 | ⟨q, cap, cur, hv, hb, hq, r⟩
    · exact .inl h0
    · exact .inr ⟨q, cap, cur, hv, hb, hx5.blk hq (hR8 q cur hq), r⟩
  replace O1 := Lib.hid (hx8 O1.out)
  replace O3 := Lib.hid (hx8 O3.out)
  have O2 := Lib.hid (Own.mono k3.own (B' := w.heap.size + 3) (by omega))
  have O4 := Lib.hid (Own.mono k6.own (B' := w.heap.size + 3) (by omega))
  replace H6 := Lib.hid h6
  replace H7 := Lib.hid h7
  replace H4 := Lib.hid (hx5.blk H4.out (by omega))
  replace H5 := Lib.hid (hx5.blk H5.out (by omega))
  clear hK hN k3 k6 hF1 hF2 h6 h7 hx8 hx5 hE hX hEW hE' hW hF0 hR8 hLS H0 e0 e1 e2
  have hE := hE5
  clear hE5
  go_wp2
  refine wp_region_rg (Exc (fun k _ => k = w.heap.size + 1 ∨ k = w.heap.size + 1 + 1)) (rel_exc _) (fun w' => w'.heap[w.heap.size + 1]? = some (.cells #[.slice none 0 0, .slice none 0 0, .bool false] 32) ∧ w'.heap[w.heap.size + 1 + 1]? = some (.cells #[.slice none 0 0, .slice none 0 0, .bool false] 32)) [0, 1, 2, 3] (fun _ => none) (fun i => match i with
    | 2 => some fun _ _ w' => w'.heap[w.heap.size + 1]? = some (.cells #[.slice A1 a.length c1, .slice A5 (minB ah k).length c5, .bool false] 32) ∧ w'.heap[w.heap.size + 1 + 1]? = some (.cells #[.slice none 0 0, .slice none 0 0, .bool false] 32)
    | 3 => some fun _ _ w' => w'.heap[w.heap.size + 1]? = some (.cells #[.slice A1 a.length c1, .slice A5 (minB ah k).length c5, .bool false] 32) ∧ w'.heap[w.heap.size + 1 + 1]? = some (.cells #[.slice A2 (maxB a k).length c2, .slice A6 ah.length c6, .bool false] 32)
    | _ => none) (fun _ => false) (by kernel_rfl) (by kernel_rfl) (fun _ _ h he => ⟨he.blk h.1, he.blk h.2⟩) ⟨H4.out, H5.out⟩ (fun W N hW hF0 hN => ?_)
  have hEW : Exc (fun k _ => k = w.heap.size + 1 ∨ k = w.heap.size + 1 + 1) w5 W := Exc.of_ext hW
  have x0 : ∀ w', Exc (fun k _ => k = w.heap.size + 1 ∨ k = w.heap.size + 1 + 1) w5 w' → w'.cell? ⟨g6, 0, none⟩ = some (.slice A1 a.length c1) := fun w' h => cell_of_row _ _ _ _ _ _ (h.blk H6.out (by omega))
  have x1 : ∀ w', Exc (fun k _ => k = w.heap.size + 1 ∨ k = w.heap.size + 1 + 1) w5 w' → w'.cell? ⟨g6, 1, none⟩ = some (.slice A5 (minB ah k).length c5) := fun w' h => cell_of_row _ _ _ _ _ _ (h.blk H6.out (by omega))
  have x2 : ∀ w', Exc (fun k _ => k = w.heap.size + 1 ∨ k = w.heap.size + 1 + 1) w5 w' → w'.cell? ⟨g6, 2, none⟩ = some (.bool false) := fun w' h => cell_of_row _ _ _ _ _ _ (h.blk H6.out (by omega))
  have y0 : ∀ w', Exc (fun k _ => k = w.heap.size + 1 ∨ k = w.heap.size + 1 + 1) w5 w' → w'.cell? ⟨g7, 0, none⟩ = some (.slice A2 (maxB a k).length c2) := fun w' h => cell_of_row _ _ _ _ _ _ (h.blk H7.out (by omega))
  have y1 : ∀ w', Exc (fun k _ => k = w.heap.size + 1 ∨ k = w.heap.size + 1 + 1) w5 w' → w'.cell? ⟨g7, 1, none⟩ = some (.slice A6 ah.length c6) := fun w' h => cell_of_row _ _ _ _ _ _ (h.blk H7.out (by omega))
  have y2 : ∀ w', Exc (fun k _ => k = w.heap.size + 1 ∨ k = w.heap.size + 1 + 1) w5 w' → w'.cell? ⟨g7, 2, none⟩ = some (.bool false) := fun w' h => cell_of_row _ _ _ _ _ _ (h.blk H7.out (by omega))
  repeat (first | (apply wpR_one; (case ho => (simp only [List.getElem?_toArray, List.getElem?_cons_succ, List.getElem?_cons_zero]; try exact rfl)); (case hw => rfl); (case hl => rfl); (case hsp => rfl); (case he => rfl); (case hv => (intro w' hw'; (try (have hw2 := Ext.trans hEW hw')); (try (have hw3 := Exc.trans hEW hw')); (try (have hw4 := Exk.trans hEW hw')); (try (have hw5 := Mrk.trans hEW hw')); go_simp; exact rfl)); (case hw0 => (first | exact Below.refl _ _ | exact Exc.of_ext (Below.refl _ _) | exact Exk.of_ext (Below.refl _ _) | exact Mrk.of_ext (Below.refl _ _))); simp only [Act.put, List.setIfInBounds_toArray, List.set_cons_succ, List.set_cons_zero]) | (apply wpR_early; (case ho => (simp only [List.getElem?_toArray, List.getElem?_cons_succ, List.getElem?_cons_zero]; try exact rfl)); (case hw => rfl); (case hl => rfl); (case hsp => rfl); (case he => rfl); (case hv => (intro w' hw'; (try have hw2 := Ext.trans hEW hw'); go_simp; exact rfl)); simp only [Act.put, List.setIfInBounds_toArray, List.set_cons_succ, List.set_cons_zero]) | (apply wpR_pass; (case ho => (simp only [List.getElem?_toArray, List.getElem?_cons_succ, List.getElem?_cons_zero]; try exact rfl)); (case hw => rfl); (case hl => rfl); simp only [Act.put, List.setIfInBounds_toArray, List.set_cons_succ, List.set_cons_zero]))
  refine wpR_late (by ((simp only [List.getElem?_toArray, List.getElem?_cons_succ, List.getElem?_cons_zero]; try exact rfl))) _ rfl rfl (fun V v w' w2 h he => ⟨he.blk h.1, he.blk h.2⟩) (fun V V' h => rfl) (fun w' hw' hK hF => ?_) (fun v hv => ?_)
  · refine opAt_list rfl #[] (fun Q hQ => ?_)
    refine wpList_store_box rfl 32 _ _ rfl (w.heap.size + 1) _ rfl rfl 32 _ hF.1 (by kernel_rfl) rfl (by simp [Value.oneCell']) (fun w2 hb hg => ?_)
    exact hQ _ _ ⟨Exc.of_only hg (fun _ _ => .inl rfl), hb, blk_other hF.2 hg (by omega)⟩
  clear hv
  simp only [Act.put, List.setIfInBounds_toArray, List.set_cons_succ, List.set_cons_zero]
  refine wpR_late (by ((simp only [List.getElem?_toArray, List.getElem?_cons_succ, List.getElem?_cons_zero]; try exact rfl))) _ rfl rfl (fun V v w' w2 h he => ⟨he.blk h.1, he.blk h.2⟩) (fun V V' h => rfl) (fun w' hw' hK hF => ?_) (fun v hv => ?_)
  · refine opAt_list rfl #[] (fun Q hQ => ?_)
    refine wpList_store_box rfl 32 _ _ rfl (w.heap.size + 1 + 1) _ rfl rfl 32 _ hF.2 (by kernel_rfl) rfl (by simp [Value.oneCell']) (fun w2 hb hg => ?_)
    exact hQ _ _ ⟨Exc.of_only hg (fun _ _ => .inr rfl), blk_other hF.1 hg (by omega), hb⟩
  clear hv
  apply wpR_nil
  apply hN
  intro w9 hE9 hK hF
  obtain ⟨r1, r2⟩ := hF
  have hx9 := hEW.trans hE9
  have hE' : Ext w w9 := hx9.to_ext hE (fun k _ hk => by omega)
  have o1 := ownsRow_exc8 O1.out hx9 (fun k cs h1 h2 => by omega)
  have o2 := ownsRow_exc8 O2.out hx9 (fun k cs h1 h2 => by omega)
  have o3 := ownsRow_exc8 O3.out hx9 (fun k cs h1 h2 => by omega)
  have o4 := ownsRow_exc8 O4.out hx9 (fun k cs h1 h2 => by omega)
  have K1 := Lib.hid (o1.mono (B' := w.heap.size) (by omega))
  have K2 := Lib.hid (o2.mono (B' := w.heap.size) (by omega))
  have K3 := Lib.hid (o3.mono (B' := w.heap.size) (by omega))
  have K4 := Lib.hid (o4.mono (B' := w.heap.size) (by omega))
  clear hK hN x0 x1 x2 y0 y1 y2 hEW hE9 hx9 hW hF0 o1 o2 o3 o4
  go_wp2
  exact bodyPost_ret (results_rr rfl _ _ _ _ _ _ _ _ _ _ _ _ rfl r1 Try.underlying32 rfl (by kernel_rfl) rfl r2 Try.underlying32 rfl (by kernel_rfl)) rfl ⟨_, _, _, _, _, _, _, _, _, _, rfl, rfl, rfl, K1.out, K2.out, K3.out, K4.out, hE'⟩
end Go.Proofs.Ytijlaknfagpglaa
