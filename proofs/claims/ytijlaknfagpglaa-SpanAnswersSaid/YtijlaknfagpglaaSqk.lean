/- SpanAnswers: all lists of an answer. No condition but the number of ranges. SpanAnswers: CopyRange, spareRange, keptRange. No condition but that each list lies in memory as a slice. SpanAnswers: keptRange, same. No condition but sizes. -/
import Derived.Test.YtijlaknfagpglaaSqa
import Derived.Test.YtijlaknfagpglaaRapart
import Derived.Test.YtijlaknfagpglaaSpare
namespace Go.Proofs.Ytijlaknfagpglaa
open Go.RowKit Go.Proofs
set_option linter.unusedVariables false
set_option linter.unusedSimpArgs false
/-- A slice literal, laid. -/
def BuiltS (t : TypeId) (C : Nat) (cs : Array Value) (v : Value) (w : World) : Prop := ∃ h, v = .slice (some ⟨h, 0, none⟩) cs.size cs.size ∧ C ≤ h ∧ w.heap[h]? = some (.cells cs t (0, 0))
theorem BuiltS.lasts {D : Nat → Obj → Prop} {t : TypeId} {C : Nat} (hd : ∀ k o, D k o → k < C) (cs : Array Value) (v : Value) : Lasts (Exc D) (BuiltS t C cs v) := fun w w' ⟨h, h1, h2, h3⟩ hx => ⟨h, h1, h2, hx.blk h3 (fun e => by have := hd _ _ e; omega)⟩
theorem slS_inj {g g' a b c d : Nat} (h : Value.slice (some ⟨g, 0, none⟩) a b = Value.slice (some ⟨g', 0, none⟩) c d) : g = g' := by
  injection h with h; injection h with h; injection h with h
/-- The lists that lie so far in the call's own list; the box of the argument stands. -/
structure LsS (w0 : World) (t : Obj) (v : Value) (n : Nat) (xs : List Value) (w : World) : Prop where
  own : w.ownsRow (w0.heap.size + 1) 22 1 v n xs
  box : w.heap[w0.heap.size]? = some t
  ext : Ext w0 w
theorem LsS.more {w0 w w' : World} {t : Obj} {v : Value} {n : Nat} {xs : List Value} (h : LsS w0 t v n xs w) (he : Ext w w') : LsS w0 t v n xs w' := ⟨own_ext h.own he, he.blk h.box, h.ext.trans he⟩
set_option maxRecDepth 8000 in
set_option maxHeartbeats 2000000 in
theorem lists_any {n0 : Int} {is : Bool} {kA lA : Option Addr} {nk kc lc : Nat} {fs : List Fr} {w : World} (hr : RowR w lA fs) (hn : fs.length ≤ 61) :
    Calls Try.prog 40 #[.agg #[.int .i64 n0, .bool is, .slice kA nk kc, .slice lA fs.length lc]] w fun e w' => ∃ A c, e = .returned (.slice A (1 + 2 * fs.length) c) ∧ w'.ownsRow w.heap.size 22 1 (.slice A (1 + 2 * fs.length) c) (1 + 2 * fs.length) (.slice kA nk kc :: fs.flatMap fv) ∧ Ext w w' := by
  obtain ⟨i1, hi1, hy0, hy1, hy2⟩ := info_parts infoSlB
  have hb1 := heap_alloc_new w (Obj.cells #[.int .i64 n0, .bool is, .slice kA nk kc, .slice lA fs.length lc] 50)
  have hE1 := ext_alloc w (Obj.cells #[.int .i64 n0, .bool is, .slice kA nk kc, .slice lA fs.length lc] 50)
  go_enter Try.func40, Try.ntmps40
  go_wp2
  go_loopw [3, 4] (fun o ii wr => ∃ (i n : Nat) (A : Option Addr) (c : Nat), i ≤ fs.length ∧ Hid (n = 1 + 2 * i) ∧ ii = .int .i64 i ∧ o = .slice A n c ∧ LsS w (Obj.cells #[.int .i64 n0, .bool is, .slice kA nk kc, .slice lA fs.length lc] 50) (.slice A n c) n ([Value.slice kA nk kc] ++ (fs.take i).flatMap fv) wr) (fun _ ii _ => fs.length - (intOf ii).toNat)
  case atStart =>
    refine ⟨0, 1, _, _, Nat.zero_le _, Lib.hid rfl, rfl, rfl, ?_⟩
    rw [List.take_zero, List.flatMap_nil, List.append_nil]
    refine ⟨?_, (ext_alloc _ _).blk hb1, hE1.trans (ext_alloc _ _)⟩
    have := World.ownsRow_lit (base := w.heap.size + 1) (e := 22) (size := 1) (w.alloc (Obj.cells #[.int .i64 n0, .bool is, .slice kA nk kc, .slice lA fs.length lc] 50)) #[.slice kA nk kc] 1 (by simp) (by decide) rfl
    rw [World.size_alloc] at this
    exact own_mono this (by omega)
  case round =>
    obtain ⟨i, n, A, c, hi, HN, rfl, rfl, hS⟩ := hrel
    clear hb1 hE1
    have hbx := hS.box
    have p2 := cell_of_row wr w.heap.size 3 _ _ _ hbx
    simp only [List.getElem?_toArray, List.getElem?_cons_zero, List.getElem?_cons_succ] at p2
    by_cases hlt : i < fs.length
    · have hii : (i : Int) < (fs.length : Int) := by omega
      obtain ⟨g, of, rfl, hrd⟩ := hr.rd (by omega)
      obtain ⟨f, hf⟩ : ∃ f, fs[i]? = some f := ⟨_, List.getElem?_eq_getElem hlt⟩
      have k1 := hrd i f hf
      have z0 := k1.c0
      have z1 := k1.c1
      have HTK := Lib.hid (show (fs.take (i + 1)).flatMap fv = (fs.take i).flatMap fv ++ fv f by rw [List.take_add_one, hf]; simp)
      obtain ⟨flA, flc, flo, fhA, fhc, fhi, fop⟩ := f
      dsimp only at z0 z1
      have hnx := HN.out
      have hnb : n ≤ 200 := by omega
      have hD : ∀ (k : Nat) (o : Obj), (Value.slice A n c).ownBlock = some k → k < wr.heap.size := fun k _ hk => (hS.own.lt k hk).2
      have hDw : ∀ (k : Nat) (o : Obj), (Value.slice A n c).ownBlock = some k → w.heap.size + 1 ≤ k := fun k _ hk => (hS.own.lt k hk).1
      clear hf hrd k1 hnx
      generalize hxs : ([Value.slice kA nk kc] ++ (fs.take i).flatMap fv) = xs at hS
      have HXS := Lib.hid hxs
      have hws := hS.ext.size
      clear hxs
      go_wp2
      refine wp_region_rg (Exc (fun k _ => (Value.slice A n c).ownBlock = some k)) (rel_exc _) (fun w' => LsS w (Obj.cells #[.int .i64 n0, .bool is, .slice kA nk kc, .slice (some ⟨g, of, none⟩) fs.length lc] 50) (.slice A n c) n xs w') [0, 1, 2, 3, 4, 5, 6, 7, 8, 9, 10, 11, 12, 13, 14, 15] (fun i => match i with
        | 13 => some fun V => BuiltS 22 wr.heap.size #[V 6, V 12]
        | _ => none) (fun i => match i with
        | 14 => some fun V v w' => ∃ A c, v = .slice A (n + 2) c ∧ LsS w (Obj.cells #[.int .i64 n0, .bool is, .slice kA nk kc, .slice (some ⟨g, of, none⟩) fs.length lc] 50) (.slice A (n + 2) c) (n + 2) (xs ++ [.slice flA flo.length flc, .slice fhA fhi.length fhc]) w'
        | _ => none) (fun _ => false) (by kernel_rfl) (by kernel_rfl) (fun _ _ h he => h.more he) (hS.more (ext_drew _)) (fun W N hW hF0 hN => ?_)
      have hEW : Exc (fun k _ => (Value.slice A n c).ownBlock = some k) wr W := Exc.of_ext hW
      have hX : ∀ w', Exc (fun k _ => (Value.slice A n c).ownBlock = some k) W w' → Exc (fun k _ => (Value.slice A n c).ownBlock = some k) wr w' := fun w' h => hEW.trans h
      have e2 : ∀ w', Exc (fun k _ => (Value.slice A n c).ownBlock = some k) W w' → w'.cell? ⟨w.heap.size, 3, none⟩ = some (.slice (some ⟨g, of, none⟩) fs.length lc) := fun w' h => cell_of_row _ _ _ _ _ _ ((hX w' h).blk hbx (fun e => by have := hDw _ (Obj.cells #[] 0) e; omega))
      have y0 : ∀ w', Exc (fun k _ => (Value.slice A n c).ownBlock = some k) W w' → w'.cell? ⟨g, of + i * 3, none⟩ = some (.slice flA flo.length flc) := fun w' h => ((hX w' h).to_ext hS.ext (fun k o e => by have := hDw _ o e; omega)).cell z0
      have y1 : ∀ w', Exc (fun k _ => (Value.slice A n c).ownBlock = some k) W w' → w'.cell? ⟨g, of + i * 3 + 1, none⟩ = some (.slice fhA fhi.length fhc) := fun w' h => ((hX w' h).to_ext hS.ext (fun k o e => by have := hDw _ o e; omega)).cell z1
      repeat (first | (apply wpR_one; (case ho => (simp only [List.getElem?_toArray, List.getElem?_cons_succ, List.getElem?_cons_zero]; try exact rfl)); (case hw => rfl); (case hl => rfl); (case hsp => rfl); (case he => rfl); (case hv => (intro w' hw'; (try (have hw2 := Ext.trans hEW hw')); (try (have hw3 := Exc.trans hEW hw')); (try (have hw4 := Exk.trans hEW hw')); (try (have hw5 := Mrk.trans hEW hw')); go_simp; exact rfl)); (case hw0 => (first | exact Below.refl _ _ | exact Exc.of_ext (Below.refl _ _) | exact Exk.of_ext (Below.refl _ _) | exact Mrk.of_ext (Below.refl _ _))); simp only [Act.put, List.setIfInBounds_toArray, List.set_cons_succ, List.set_cons_zero]) | (apply wpR_early; (case ho => (simp only [List.getElem?_toArray, List.getElem?_cons_succ, List.getElem?_cons_zero]; try exact rfl)); (case hw => rfl); (case hl => rfl); (case hsp => rfl); (case he => rfl); (case hv => (intro w' hw'; (try have hw2 := Ext.trans hEW hw'); go_simp; exact rfl)); simp only [Act.put, List.setIfInBounds_toArray, List.set_cons_succ, List.set_cons_zero]) | (apply wpR_pass; (case ho => (simp only [List.getElem?_toArray, List.getElem?_cons_succ, List.getElem?_cons_zero]; try exact rfl)); (case hw => rfl); (case hl => rfl); simp only [Act.put, List.setIfInBounds_toArray, List.set_cons_succ, List.set_cons_zero]))
      refine wpR_new (by ((simp only [List.getElem?_toArray, List.getElem?_cons_succ, List.getElem?_cons_zero]; try exact rfl))) _ rfl rfl rfl (fun V v => BuiltS.lasts hD _ _) (fun V V' h => by simp only [h 6 (by kernel_rfl), h 12 (by kernel_rfl)]) (fun w' hw' hK => ?_) (fun v hv => ?_)
      · have hXs := (hEW.trans hw').size
        unfold opAt
        go_simp
        exact upAt_value ⟨ext_alloc _ _, _, rfl, hXs, heap_alloc_new _ _⟩
      obtain ⟨h, rfl⟩ : ∃ h, v = .slice (some ⟨h, 0, none⟩) 2 2 := by
        obtain ⟨_, _, _, h, e, _⟩ := hv
        exact ⟨h, e⟩
      clear hv
      simp only [Act.put, List.setIfInBounds_toArray, List.set_cons_succ, List.set_cons_zero]
      refine wpR_late (by ((simp only [List.getElem?_toArray, List.getElem?_cons_succ, List.getElem?_cons_zero]; try exact rfl))) _ rfl rfl (fun V v w' w2 ⟨A, c, h1, h2⟩ he => ⟨A, c, h1, h2.more he⟩) (fun V V' h => rfl) (fun w' hw' hK hF => ?_) (fun v hv => ?_)
      · have hF2 : LsS w (Obj.cells #[.int .i64 n0, .bool is, .slice kA nk kc, .slice (some ⟨g, of, none⟩) fs.length lc] 50) (.slice A n c) n xs w' := hF
        obtain ⟨h', e4, _, hbk⟩ := (hK 13 (by kernel_rfl)).2
        obtain rfl := slS_inj (show Value.slice (some ⟨h, 0, none⟩) 2 2 = _ from e4)
        have hbk' : w'.heap[h]? = some (Obj.cells #[.slice flA flo.length flc, .slice fhA fhi.length fhc] 22 (0, 0)) := hbk
        have hnews : ∀ j u, ([.slice flA flo.length flc, .slice fhA fhi.length fhc] : List Value)[j]? = some u → w'.cell? ((⟨h, 0, none⟩ : Addr).add j) = some u := fun j u hj => by
          rw [Addr.add_lit, cell_of_row _ _ _ _ _ _ hbk', Nat.zero_add]
          simpa using hj
        have hsz := hF2.ext.size
        refine opAt_list rfl #[] (fun Q hQ => ?_)
        refine wpList_append_own _ rfl _ _ 55 rfl (w.heap.size + 1) 22 i1 _ 1 24 Try.underlying55 hi1 hy0 hy1 hy2 rfl (by decide) _ _ _ rfl hF2.own ⟨h, 0, none⟩ 2 2 [.slice flA flo.length flc, .slice fhA fhi.length fhc] rfl rfl hnews (by simp [Value.oneCell']) (by simp [maxLen]; omega) (by omega) (by have := (Array.getElem?_eq_some_iff.1 hF2.box).1; omega) ?_
        intro v' w2 hown2 hgrow2 _
        obtain ⟨A', c', rfl⟩ := slice_of_own hown2
        have hxc : Exc (fun k _ => (Value.slice A n c).ownBlock = some k) w' w2 := Exc.of_grown hgrow2 (fun g o hg _ => hg)
        exact hQ _ _ ⟨hxc, A', c', rfl, hown2, hxc.blk hF2.box (fun e => by have := hDw _ (Obj.cells #[] 0) e; omega), hxc.to_ext hF2.ext (fun k o e => by have := hDw _ o e; omega)⟩
      obtain ⟨A5, c5, rfl⟩ : ∃ A c, v = .slice A (n + 2) c := by
        obtain ⟨_, _, A, c, e, _⟩ := hv
        exact ⟨A, c, e⟩
      clear hv
      simp only [Act.put, List.setIfInBounds_toArray, List.set_cons_succ, List.set_cons_zero]
      repeat (first | (apply wpR_one; (case ho => (simp only [List.getElem?_toArray, List.getElem?_cons_succ, List.getElem?_cons_zero]; try exact rfl)); (case hw => rfl); (case hl => rfl); (case hsp => rfl); (case he => rfl); (case hv => (intro w' hw'; (try (have hw2 := Ext.trans hEW hw')); (try (have hw3 := Exc.trans hEW hw')); (try (have hw4 := Exk.trans hEW hw')); (try (have hw5 := Mrk.trans hEW hw')); go_simp; exact rfl)); (case hw0 => (first | exact Below.refl _ _ | exact Exc.of_ext (Below.refl _ _) | exact Exk.of_ext (Below.refl _ _) | exact Mrk.of_ext (Below.refl _ _))); simp only [Act.put, List.setIfInBounds_toArray, List.set_cons_succ, List.set_cons_zero]) | (apply wpR_early; (case ho => (simp only [List.getElem?_toArray, List.getElem?_cons_succ, List.getElem?_cons_zero]; try exact rfl)); (case hw => rfl); (case hl => rfl); (case hsp => rfl); (case he => rfl); (case hv => (intro w' hw'; (try have hw2 := Ext.trans hEW hw'); go_simp; exact rfl)); simp only [Act.put, List.setIfInBounds_toArray, List.set_cons_succ, List.set_cons_zero]) | (apply wpR_pass; (case ho => (simp only [List.getElem?_toArray, List.getElem?_cons_succ, List.getElem?_cons_zero]; try exact rfl)); (case hw => rfl); (case hl => rfl); simp only [Act.put, List.setIfInBounds_toArray, List.set_cons_succ, List.set_cons_zero]))
      apply wpR_nil
      apply hN
      intro w5 hE' hK hF
      have hF5 : LsS w (Obj.cells #[.int .i64 n0, .bool is, .slice kA nk kc, .slice (some ⟨g, of, none⟩) fs.length lc] 50) (.slice A5 (n + 2) c5) (n + 2) (xs ++ [.slice flA flo.length flc, .slice fhA fhi.length fhc]) w5 := by
        obtain ⟨A', c', e, h⟩ := hF
        injection e with e1 _ e2
        subst e1 e2
        exact h
      clear hK hN hF e2 y0 y1 hX hEW hE' hD hDw hF0 hW hS
      go_wp2
      go_roundw
      case rel => exact ⟨i + 1, n + 2, A5, c5, by omega, Lib.hid (by have := HN.out; omega), by go_num, rfl, by rw [HTK.out, ← List.append_assoc, HXS.out]; exact hF5⟩
      case measure => simp [intOf]; omega
    · obtain rfl : i = fs.length := by omega
      obtain rfl : n = 1 + 2 * fs.length := HN.out
      rw [List.take_length] at hS
      go_wp2
      go_ret
      exact ⟨A, c, rfl, own_mono hS.own (by omega), hS.ext⟩
end Go.Proofs.Ytijlaknfagpglaa

namespace Go.Proofs.Ytijlaknfagpglaa
open Go.RowKit Go.Proofs
set_option linter.unusedVariables false
set_option linter.unusedSimpArgs false
/-- A list that Spare made. -/
def SpL (B C : Nat) (w : World) (A : Option Addr) (c : Nat) (bs : List UInt8) : Prop := ∃ g, A = some ⟨g, 0, none⟩ ∧ c = bs.length + 64 ∧ B ≤ g ∧ g < C ∧ Spared w g bs
theorem SpL.ext {B C : Nat} {w w' : World} {A : Option Addr} {c : Nat} {bs : List UInt8} (h : SpL B C w A c bs) (he : Ext w w') : SpL B C w' A c bs := by
  obtain ⟨g, h1, h2, h3, h4, h5⟩ := h
  exact ⟨g, h1, h2, h3, h4, Blk.ext h5 he⟩
theorem SpL.mono {B B' C C' : Nat} {w : World} {A : Option Addr} {c : Nat} {bs : List UInt8} (h : SpL B C w A c bs) (hB : B' ≤ B) (hC : C ≤ C') : SpL B' C' w A c bs := by
  obtain ⟨g, h1, h2, h3, h4, h5⟩ := h
  exact ⟨g, h1, h2, by omega, by omega, h5⟩
theorem SpL.sl {B C : Nat} {w : World} {A : Option Addr} {c : Nat} {bs : List UInt8} (h : SpL B C w A c bs) (hs : bs.length ≤ 140737488355328) : Sl w A c bs := by
  obtain ⟨g, rfl, rfl, _, _, h⟩ := h
  exact h.sl hs
theorem SpL.exc {D : Nat → Obj → Prop} {B C : Nat} {w w' : World} {A : Option Addr} {c : Nat} {bs : List UInt8} (h : SpL B C w A c bs) (hx : Exc D w w') (hd : ∀ k cs, ¬ D k (.cells cs 5 (0, 0))) : SpL B C w' A c bs := by
  obtain ⟨g, h1, h2, h3, h4, h5⟩ := h
  exact ⟨g, h1, h2, h3, h4, hx.blk h5 (hd _ _)⟩
theorem spare_spl {A : Option Addr} {c n : Nat} {bs : List UInt8} {w : World} (h : Sl w A c bs) (hn : n = bs.length) :
    Calls Try.prog 57 #[.slice A n c] w fun e w' => ∃ A' c', e = .returned (.slice A' bs.length c') ∧ SpL w.heap.size w'.heap.size w' A' c' bs ∧ Ext w w' := by
  subst hn
  refine (spare_any h).mono ?_
  rintro e w' ⟨g, rfl, hg, hs, hE⟩
  exact ⟨_, _, rfl, ⟨g, rfl, rfl, hg, (Array.getElem?_eq_some_iff.1 hs).1, hs⟩, hE⟩
theorem kept_spl {B C : Nat} {A E : Option Addr} {c d n m : Nat} {bs cs : List UInt8} {w : World} (h : SpL B C w A c bs) (k : Sl w E d cs) (hn : n = bs.length) (hm : m = cs.length) (he : bs = cs) :
    Calls Try.prog 64 #[.slice A n c, .slice E m d] w fun e w' => e = .returned (.bool true) ∧ Ext w w' := by
  subst hn hm he
  obtain ⟨g, rfl, rfl, _, _, h⟩ := h
  exact Proofs.Ytijlaknfagpglaa.kept_any h k
/-- A list of SpL's as a value. -/
def SpV (B : Nat) (bs : List UInt8) (v : Value) (w : World) : Prop := ∃ A c, v = .slice A bs.length c ∧ SpL B w.heap.size w A c bs
theorem SpV.ext {B : Nat} {bs : List UInt8} {v : Value} {w w' : World} (h : SpV B bs v w) (he : Ext w w') : SpV B bs v w' := by
  obtain ⟨A, c, h1, h2⟩ := h
  exact ⟨A, c, h1, (h2.ext he).mono (Nat.le_refl _) he.size⟩
theorem SpV.stable (B : Nat) (bs : List UInt8) (v : Value) : Stable (SpV B bs v) := fun w w' h hb => h.ext hb
set_option maxRecDepth 8000 in
theorem copyRange_any {lA hA : Option Addr} {lc hc : Nat} {lo hi : List UInt8} {op : Bool} {w : World} (hk : Sl w lA lc lo) (hv : Sl w hA hc hi) :
    Calls Try.prog 66 #[.agg #[.slice lA lo.length lc, .slice hA hi.length hc, .bool op]] w fun e w' => ∃ kA kc vA vc,
      e = .returned (.agg #[.slice kA lo.length kc, .slice vA hi.length vc, .bool op]) ∧ Own 5 w.heap.size w' kA kc lo ∧ Own 5 w.heap.size w' vA vc hi ∧ Ext w w' := by
  go_enter Try.func66, Try.ntmps66
  go_wp2
  refine wp_cut (fun W => Ext w W ∧ W.heap[w.heap.size]? = some (.cells #[.slice lA lo.length lc, .slice hA hi.length hc, .bool op] 32) ∧
    W.heap[w.heap.size + 1]? = some (.cells #[.slice none 0 0, .slice none 0 0, .bool false] 32)) ⟨(ext_alloc _ _).trans (ext_alloc _ _), heap_alloc2_old _ _ _, heap_alloc2_new _ _ _⟩ ?_
  rintro w1 ⟨hE, hb1, hb2⟩
  refine wp_region_mild 9 (fun i => match i with
    | 2 => some fun _ => SOwn 5 w1.heap.size lo
    | 5 => some fun _ => SOwn 5 w1.heap.size hi
    | _ => none) (by kernel_rfl) (by kernel_rfl) (fun W N hW hN => ?_)
  have hE1 := hE.trans hW
  have e0 : ∀ w', Ext W w' → w'.cell? ⟨w.heap.size, 0, none⟩ = some (.slice lA lo.length lc) := fun w' h => cell_of_row _ _ _ _ _ _ ((hW.trans h).blk hb1)
  have e1 : ∀ w', Ext W w' → w'.cell? ⟨w.heap.size, 1, none⟩ = some (.slice hA hi.length hc) := fun w' h => cell_of_row _ _ _ _ _ _ ((hW.trans h).blk hb1)
  have e2 : ∀ w', Ext W w' → w'.cell? ⟨w.heap.size, 2, none⟩ = some (.bool op) := fun w' h => cell_of_row _ _ _ _ _ _ ((hW.trans h).blk hb1)
  simp only [List.take_succ_cons, List.take_zero]
  repeat (apply wpM_one; (case hg => rfl); (case hsp => rfl); (case hv => (intro w' hw'; go_simp; exact rfl)); simp only [Act.put, List.setIfInBounds_toArray, List.set_cons_succ, List.set_cons_zero])
  refine wpM_new _ rfl rfl (fun V v => SOwn.stable _ _ _ _) (fun V V' h => rfl) (fun w' hw' hK => ?_) (fun v hv => ?_)
  · unfold mildAt; go_simp; rw [mildUpon_enter]
    refine ⟨Below.refl _ _, (cpy_any (hk.ext (hE1.trans hw')) rfl).mono ?_⟩
    rintro e w2 ⟨A, c, rfl, ho, hE2⟩
    exact ⟨_, rfl, hE2, A, c, rfl, ho.mono (hW.trans hw').size⟩
  obtain ⟨_, _, _, A1, c1, rfl, _⟩ := hv
  simp only [Act.put, List.setIfInBounds_toArray, List.set_cons_succ, List.set_cons_zero]
  repeat (apply wpM_one; (case hg => rfl); (case hsp => rfl); (case hv => (intro w' hw'; go_simp; exact rfl)); simp only [Act.put, List.setIfInBounds_toArray, List.set_cons_succ, List.set_cons_zero])
  refine wpM_new _ rfl rfl (fun V v => SOwn.stable _ _ _ _) (fun V V' h => rfl) (fun w' hw' hK => ?_) (fun v hv => ?_)
  · unfold mildAt; go_simp; rw [mildUpon_enter]
    refine ⟨Below.refl _ _, (cpy_any (hv.ext (hE1.trans hw')) rfl).mono ?_⟩
    rintro e w2 ⟨A, c, rfl, ho, hE2⟩
    exact ⟨_, rfl, hE2, A, c, rfl, ho.mono (hW.trans hw').size⟩
  obtain ⟨_, _, _, A2, c2, rfl, _⟩ := hv
  simp only [Act.put, List.setIfInBounds_toArray, List.set_cons_succ, List.set_cons_zero]
  repeat (apply wpM_one; (case hg => rfl); (case hsp => rfl); (case hv => (intro w' hw'; go_simp; exact rfl)); simp only [Act.put, List.setIfInBounds_toArray, List.set_cons_succ, List.set_cons_zero])
  apply wpM_nil
  apply hN
  intro w' hE' hK
  have k2 := (hK 2).2
  have k5 := (hK 5).2
  simp only [List.drop_succ_cons, List.drop_zero]
  have hlt := (Array.getElem?_eq_some_iff.1 hb2).1
  refine wpList_store_box rfl 32 _ _ rfl (w.heap.size + 1) _ rfl rfl 32 _ ((hW.trans hE').blk hb2) (by kernel_rfl) rfl (by simp [Value.oneCell']) (fun w2 hb hg => ?_)
  have hE2 := ext_only (hE1.trans hE') hg (Nat.le_succ _)
  have hb2' := (hW.trans hE').blk hb2
  have o2 := Own.mono (Own.other (SOwn.own k2) hb2' (by decide) hg) hE.size
  have o5 := Own.mono (Own.other (SOwn.own k5) hb2' (by decide) hg) hE.size
  clear hK hN k2 k5 e0 e1 e2
  go_wp2
  exact bodyPost_ret (results_cell_row rfl _ _ _ _ _ _ _ rfl hb Try.underlying32 rfl (by kernel_rfl)) rfl ⟨_, _, _, _, rfl, o2, o5, hE2⟩
set_option maxRecDepth 8000 in
theorem spareRange_any {lA hA : Option Addr} {lc hc : Nat} {lo hi : List UInt8} {op : Bool} {w : World} (hk : Sl w lA lc lo) (hv : Sl w hA hc hi) :
    Calls Try.prog 58 #[.agg #[.slice lA lo.length lc, .slice hA hi.length hc, .bool op]] w fun e w' => ∃ kA kc vA vc,
      e = .returned (.agg #[.slice kA lo.length kc, .slice vA hi.length vc, .bool op]) ∧ SpL w.heap.size w'.heap.size w' kA kc lo ∧ SpL w.heap.size w'.heap.size w' vA vc hi ∧ Ext w w' := by
  go_enter Try.func58, Try.ntmps58
  go_wp2
  refine wp_cut (fun W => Ext w W ∧ W.heap[w.heap.size]? = some (.cells #[.slice lA lo.length lc, .slice hA hi.length hc, .bool op] 32) ∧
    W.heap[w.heap.size + 1]? = some (.cells #[.slice none 0 0, .slice none 0 0, .bool false] 32)) ⟨(ext_alloc _ _).trans (ext_alloc _ _), heap_alloc2_old _ _ _, heap_alloc2_new _ _ _⟩ ?_
  rintro w1 ⟨hE, hb1, hb2⟩
  refine wp_region_mild 9 (fun i => match i with
    | 2 => some fun _ => SpV w1.heap.size lo
    | 5 => some fun _ => SpV w1.heap.size hi
    | _ => none) (by kernel_rfl) (by kernel_rfl) (fun W N hW hN => ?_)
  have hE1 := hE.trans hW
  have e0 : ∀ w', Ext W w' → w'.cell? ⟨w.heap.size, 0, none⟩ = some (.slice lA lo.length lc) := fun w' h => cell_of_row _ _ _ _ _ _ ((hW.trans h).blk hb1)
  have e1 : ∀ w', Ext W w' → w'.cell? ⟨w.heap.size, 1, none⟩ = some (.slice hA hi.length hc) := fun w' h => cell_of_row _ _ _ _ _ _ ((hW.trans h).blk hb1)
  have e2 : ∀ w', Ext W w' → w'.cell? ⟨w.heap.size, 2, none⟩ = some (.bool op) := fun w' h => cell_of_row _ _ _ _ _ _ ((hW.trans h).blk hb1)
  simp only [List.take_succ_cons, List.take_zero]
  repeat (apply wpM_one; (case hg => rfl); (case hsp => rfl); (case hv => (intro w' hw'; go_simp; exact rfl)); simp only [Act.put, List.setIfInBounds_toArray, List.set_cons_succ, List.set_cons_zero])
  refine wpM_new _ rfl rfl (fun V v => SpV.stable _ _ _) (fun V V' h => rfl) (fun w' hw' hK => ?_) (fun v hv => ?_)
  · unfold mildAt; go_simp; rw [mildUpon_enter]
    refine ⟨Below.refl _ _, (spare_spl (hk.ext (hE1.trans hw')) rfl).mono ?_⟩
    rintro e w2 ⟨A, c, rfl, ho, hE2⟩
    exact ⟨_, rfl, hE2, A, c, rfl, ho.mono (hW.trans hw').size (Nat.le_refl _)⟩
  obtain ⟨_, _, _, A1, c1, rfl, _⟩ := hv
  simp only [Act.put, List.setIfInBounds_toArray, List.set_cons_succ, List.set_cons_zero]
  repeat (apply wpM_one; (case hg => rfl); (case hsp => rfl); (case hv => (intro w' hw'; go_simp; exact rfl)); simp only [Act.put, List.setIfInBounds_toArray, List.set_cons_succ, List.set_cons_zero])
  refine wpM_new _ rfl rfl (fun V v => SpV.stable _ _ _) (fun V V' h => rfl) (fun w' hw' hK => ?_) (fun v hv => ?_)
  · unfold mildAt; go_simp; rw [mildUpon_enter]
    refine ⟨Below.refl _ _, (spare_spl (hv.ext (hE1.trans hw')) rfl).mono ?_⟩
    rintro e w2 ⟨A, c, rfl, ho, hE2⟩
    exact ⟨_, rfl, hE2, A, c, rfl, ho.mono (hW.trans hw').size (Nat.le_refl _)⟩
  obtain ⟨_, _, _, A2, c2, rfl, _⟩ := hv
  simp only [Act.put, List.setIfInBounds_toArray, List.set_cons_succ, List.set_cons_zero]
  repeat (apply wpM_one; (case hg => rfl); (case hsp => rfl); (case hv => (intro w' hw'; go_simp; exact rfl)); simp only [Act.put, List.setIfInBounds_toArray, List.set_cons_succ, List.set_cons_zero])
  apply wpM_nil
  apply hN
  intro w' hE' hK
  have k2 := (hK 2).2
  have k5 := (hK 5).2
  simp only [List.drop_succ_cons, List.drop_zero]
  have hlt := (Array.getElem?_eq_some_iff.1 hb2).1
  refine wpList_store_box rfl 32 _ _ rfl (w.heap.size + 1) _ rfl rfl 32 _ ((hW.trans hE').blk hb2) (by kernel_rfl) rfl (by simp [Value.oneCell']) (fun w2 hb hg => ?_)
  have hE2 := ext_only (hE1.trans hE') hg (Nat.le_succ _)
  have hb2' := (hW.trans hE').blk hb2
  have hx : Exc (fun k o => ∃ cs fr, o = Obj.cells cs 32 fr) w' w2 := Exc.of_only hg (fun o ho => by rw [hb2'] at ho; injection ho with ho; exact ⟨_, _, ho.symm⟩)
  have hd : ∀ (k : Nat) (cs : Array Value), ¬ (∃ cs' fr, Obj.cells cs 5 (0, 0) = Obj.cells cs' 32 fr) := fun k cs ⟨_, _, e⟩ => by injection e with _ e; exact absurd e (by decide)
  have o2 : SpL w.heap.size w2.heap.size w2 A1 c1 lo := by
    obtain ⟨A', c', e, h⟩ := k2
    injection e with e1 _ e2
    subst e1 e2
    exact (h.exc hx hd).mono hE.size hx.size
  have o5 : SpL w.heap.size w2.heap.size w2 A2 c2 hi := by
    obtain ⟨A', c', e, h⟩ := k5
    injection e with e1 _ e2
    subst e1 e2
    exact (h.exc hx hd).mono hE.size hx.size
  clear hK hN k2 k5 e0 e1 e2
  go_wp2
  exact bodyPost_ret (results_cell_row rfl _ _ _ _ _ _ _ rfl hb Try.underlying32 rfl (by kernel_rfl)) rfl ⟨_, _, _, _, rfl, o2, o5, hE2⟩
end Go.Proofs.Ytijlaknfagpglaa

namespace Go.Proofs.Ytijlaknfagpglaa
open Go.RowKit Go.Proofs
set_option linter.unusedVariables false
set_option linter.unusedSimpArgs false
set_option maxHeartbeats 1000000 in
theorem keptRange_any {B C : Nat} {lA hA mA jA : Option Addr} {lc hc mc jc n1 n2 n3 n4 : Nat} {lo hi mo ji : List UInt8} {op oq : Bool} {w : World} (hlo : SpL B C w lA lc lo) (hhi : SpL B C w hA hc hi) (hmo : Sl w mA mc mo) (hji : Sl w jA jc ji)
    (e1 : n1 = lo.length) (e2 : n2 = hi.length) (e3 : n3 = mo.length) (e4 : n4 = ji.length) (hl : lo = mo) (hh : hi = ji) (ho : op = oq) :
    Calls Try.prog 65 #[.agg #[.slice lA n1 lc, .slice hA n2 hc, .bool op], .agg #[.slice mA n3 mc, .slice jA n4 jc, .bool oq]] w fun e w' => e = .returned (.bool true) ∧ Ext w w' := by
  subst e1 e2 e3 e4 ho
  have HL := Lib.hid hl
  have HH := Lib.hid hh
  clear hl hh
  have hE0 : Ext w ((w.alloc (.cells #[.slice lA lo.length lc, .slice hA hi.length hc, .bool op] 32 (0, 0))).alloc (.cells #[.slice mA mo.length mc, .slice jA ji.length jc, .bool op] 32 (0, 0))) := (ext_alloc _ _).trans (ext_alloc _ _)
  have hb1 : (((w.alloc (.cells #[.slice lA lo.length lc, .slice hA hi.length hc, .bool op] 32 (0, 0))).alloc (.cells #[.slice mA mo.length mc, .slice jA ji.length jc, .bool op] 32 (0, 0))).heap)[w.heap.size]? = some (.cells #[.slice lA lo.length lc, .slice hA hi.length hc, .bool op] 32 (0, 0)) := heap_alloc2_old _ _ _
  have hb2 : (((w.alloc (.cells #[.slice lA lo.length lc, .slice hA hi.length hc, .bool op] 32 (0, 0))).alloc (.cells #[.slice mA mo.length mc, .slice jA ji.length jc, .bool op] 32 (0, 0))).heap)[w.heap.size + 1]? = some (.cells #[.slice mA mo.length mc, .slice jA ji.length jc, .bool op] 32 (0, 0)) := heap_alloc2_new _ _ _
  cases op <;>
  · go_enter Try.func65, Try.ntmps65
    go_wp2_with fail
    refine (kept_spl (hlo.ext hE0) (hmo.ext hE0) rfl rfl HL.out).mono ?_
    rintro e w1 ⟨rfl, hE1⟩
    have hc1 := hE1.blk hb1
    have hc2 := hE1.blk hb2
    have f1 := cell_of_row w1 w.heap.size 1 _ _ _ hc1
    have g1 := cell_of_row w1 (w.heap.size + 1) 1 _ _ _ hc2
    simp at f1 g1
    go_wp2_with fail
    refine (kept_spl ((hhi.ext hE0).ext hE1) ((hji.ext hE0).ext hE1) rfl rfl HH.out).mono ?_
    rintro e w2 ⟨rfl, hE2⟩
    go_wp2
    go_ret
    exact ⟨rfl, (hE0.trans hE1).trans hE2⟩
set_option maxRecDepth 8000 in
set_option maxHeartbeats 2000000 in
theorem same_any {ap ap' : Bool} {B B' : Nat} {w : World} {v u : Value} {x : Ansp} (h : AnsO ap B w v x) (k : AnsO ap' B' w u x) :
    Calls Try.prog 36 #[v, u] w fun e w' => e = .returned (.bool true) ∧ Ext w w' := by
  obtain ⟨kA, kc, lv, fs, rfl, hk, hl, ho, hx, ⟨s1, s2, s3⟩, -⟩ := h
  obtain ⟨kB, kd, lu, gs, rfl, hk2, hl2, ho2, hx2, ⟨r1, r2, r3⟩, -⟩ := k
  obtain ⟨n, is, kk, l⟩ := x
  dsimp only at hk hx s1 hk2 hx2 r1 ⊢
  have HT := Lib.hid (show decide (fs.map rg = gs.map rg) = true from decide_eq_true (hx.symm.trans hx2))
  obtain ⟨Al, Cl, rfl⟩ := slice_of_own hl
  obtain ⟨Am, Cm, rfl⟩ := slice_of_own hl2
  have hr : RowR w Al fs := rowR_of (C := 0) hl fun f hf => ⟨(ho f hf).1.sl (Nat.le_trans (s2 f hf).1 (by omega)), (ho f hf).2.sl (Nat.le_trans (s2 f hf).2 (by omega))⟩
  have hr2 : RowR w Am gs := rowR_of (C := 0) hl2 fun f hf => ⟨(ho2 f hf).1.sl (Nat.le_trans (r2 f hf).1 (by omega)), (ho2 f hf).2.sl (Nat.le_trans (r2 f hf).2 (by omega))⟩
  have sk := hk.sl (Nat.le_trans s1 (by omega))
  have sk2 := hk2.sl (Nat.le_trans r1 (by omega))
  clear hk hk2 hl hl2 ho ho2 hx hx2 s1 s2 r1 r2
  have hE0 : Ext w ((w.alloc (.cells #[.int .i64 n, .bool is, .slice kA kk.length kc, .slice Al fs.length Cl] 50 (0, 0))).alloc (.cells #[.int .i64 n, .bool is, .slice kB kk.length kd, .slice Am gs.length Cm] 50 (0, 0))) := (ext_alloc _ _).trans (ext_alloc _ _)
  have hb1 : (((w.alloc (.cells #[.int .i64 n, .bool is, .slice kA kk.length kc, .slice Al fs.length Cl] 50 (0, 0))).alloc (.cells #[.int .i64 n, .bool is, .slice kB kk.length kd, .slice Am gs.length Cm] 50 (0, 0))).heap)[w.heap.size]? = some (.cells #[.int .i64 n, .bool is, .slice kA kk.length kc, .slice Al fs.length Cl] 50 (0, 0)) := heap_alloc2_old _ _ _
  have hb2 : (((w.alloc (.cells #[.int .i64 n, .bool is, .slice kA kk.length kc, .slice Al fs.length Cl] 50 (0, 0))).alloc (.cells #[.int .i64 n, .bool is, .slice kB kk.length kd, .slice Am gs.length Cm] 50 (0, 0))).heap)[w.heap.size + 1]? = some (.cells #[.int .i64 n, .bool is, .slice kB kk.length kd, .slice Am gs.length Cm] 50 (0, 0)) := heap_alloc2_new _ _ _
  have hnn : (n == n) = true := beq_self_eq_true n
  cases is <;>
  · go_enter Try.func36, Try.ntmps36
    go_wp2_with fail
    refine (eqb_any (sk.ext hE0) (sk2.ext hE0) rfl rfl).mono ?_
    rintro e w1 ⟨rfl, hE1⟩
    rw [eqB_self]
    have hc1 := hE1.blk hb1
    have hc2 := hE1.blk hb2
    have f1 := cell_of_row w1 w.heap.size 3 _ _ _ hc1
    have g1 := cell_of_row w1 (w.heap.size + 1) 3 _ _ _ hc2
    simp at f1 g1
    go_wp2_with fail
    refine (sameRanges_any ((hr.ext hE0).ext hE1) ((hr2.ext hE0).ext hE1) rfl rfl (by omega) (by omega)).mono ?_
    rintro e w2 ⟨rfl, hE2⟩
    rw [HT.out]
    go_wp2
    go_ret
    exact ⟨rfl, (hE0.trans hE1).trans hE2⟩
end Go.Proofs.Ytijlaknfagpglaa
