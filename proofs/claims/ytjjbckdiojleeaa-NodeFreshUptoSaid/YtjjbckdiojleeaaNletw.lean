/- The contract of lettered. No condition but the string's length. -/
import Derived.Test.YtjjbckdiojleeaaNlet
import Derived.Test.YtjjbckdiojleeaaNput
import Derived.Deep.Cut
namespace Go.Proofs.Ytjjbckdiojleeaa
set_option linter.unusedVariables false
open Go.RowKit Go.Proofs
structure LetA (w0 w : World) (kind level : Int) (iA : Option Addr) (ic : Nat) (done : List It) (ps : List (Value × Value)) : Prop where
  b1 : w.heap[w0.heap.size + 1]? = some (.cells #[.int .i64 kind, .int .i64 level, .slice iA done.length ic, .slice none 0 0, .int .i64 0] 26)
  b0 : w.heap[w0.heap.size]? = some (.cells #[.int .i64 0, .int .i64 0, .slice none 0 0, .slice none 0 0, .int .i64 0] 26)
  row : RowI (w0.heap.size + 2) w iA ic done ps
  each : Each (fun v bs => bs.length ≤ 64 ∧ LitIn (w0.heap.size + 2) bs v w) ps done
  e : Ext w0 w
theorem LetA.ext {w0 w w' : World} {kind level : Int} {iA : Option Addr} {ic : Nat} {done : List It} {ps : List (Value × Value)} (h : LetA w0 w kind level iA ic done ps) (he : Ext w w') : LetA w0 w' kind level iA ic done ps :=
  ⟨he.blk h.b1, he.blk h.b0, h.row.ext he, h.each.mono (fun v bs ⟨h1, h2⟩ => ⟨h1, h2.ext he⟩), h.e.trans he⟩
structure LetS (w0 w : World) (kind level : Int) (done : List It) : Prop where
  mk_ ::
  ex : ∃ iA ic ps, LetA w0 w kind level iA ic done ps
theorem take_u8 {s : ByteArray} {k : Nat} (h : k < s.size) : s.data.toList.take (k + 1) = s.data.toList.take k ++ [s[k]] := by
  rw [List.take_succ_eq_append_getElem (by simpa using h)]; rfl
theorem u8_beq (c : UInt8) (n : UInt8) : ((c.toNat : Int) == (n.toNat : Int)) = (c == n) := by
  rw [Bool.eq_iff_iff]
  simp only [beq_iff_eq]
  rw [← UInt8.toNat_inj]
  omega
/-- An item stored into its box. -/
def StoredI (g : Nat) (v : Value) (w : World) : Prop := ∃ cs, v = .agg cs ∧ w.heap[g]? = some (.cells cs 51 (0, 0))
theorem StoredI.ext {g : Nat} {v : Value} {w w' : World} (h : StoredI g v w) (he : Ext w w') : StoredI g v w' := by
  obtain ⟨cs, h1, h2⟩ := h
  exact ⟨cs, h1, he.blk h2⟩
theorem LitIn.nil_ (B : Nat) (w : World) : LitIn B [] (.slice none 0 0) w := .inl ⟨rfl, rfl⟩
theorem LitIn.built {C B : Nat} {bs : List UInt8} {h n : Nat} {w : World} (hb : Built 5 C (cells8 bs).toArray (.slice (some ⟨h, 0, none⟩) n n) w) (hB : B ≤ C) : LitIn B bs (.slice (some ⟨h, 0, none⟩) n n) w := by
  obtain ⟨g, e, hg, hbk⟩ := hb
  refine .inr ⟨g, (0, 0), ?_, by omega, hbk⟩
  rw [e]
  simp [length_cells8]
theorem u8_toNat45 {c : UInt8} : ((c.toNat : Int) = 45) ↔ c = 45 := by
  rw [← UInt8.toNat_inj]
  simp
  omega
theorem letBlk {B : Nat} {w : World} {A : Option Addr} {c : Nat} {l : List It} {ps : List (Value × Value)} (h : RowI B w A c l ps) {g : Nat} {o : Obj} (hg : (Value.slice A l.length c).ownBlock = some g) (ho : w.heap[g]? = some o) : B ≤ g ∧ ∃ cs, o = .cells cs 51 (0, 0) := by
  rcases h.2 with ⟨hv, _⟩ | ⟨g', cap, cur, hv, hb, hk, r⟩
  · rw [hv] at hg; cases hg
  · rw [hv] at hg
    injection hg with hg
    subst hg
    rw [hk] at ho
    injection ho with ho
    exact ⟨hb, _, ho.symm⟩
theorem letStep {w w1 w2 : World} {kind level : Int} {iA A5 : Option Addr} {ic c5 : Nat} {done : List It} {ps : List (Value × Value)} {x : It} {kv vv : Value} (hX2 : Exc (fun q o => w.heap.size + 2 ≤ q ∧ ∃ cs, o = .cells cs 51 (0, 0)) w1 w2)
    (hb2 : w2.heap[w.heap.size + 1]? = some (.cells #[.int .i64 kind, .int .i64 level, .slice iA done.length ic, .slice none 0 0, .int .i64 0] 26)) (hb0 : w1.heap[w.heap.size]? = some (.cells #[.int .i64 0, .int .i64 0, .slice none 0 0, .slice none 0 0, .int .i64 0] 26))
    (hrow : RowI (w.heap.size + 2) w2 A5 c5 (done ++ [x]) (ps ++ [(kv, vv)])) (heach : Each (fun v bs => bs.length ≤ 64 ∧ LitIn (w.heap.size + 2) bs v w1) ps done) (hk : LitIn (w.heap.size + 2) x.key kv w1) (hv : LitIn (w.heap.size + 2) x.val vv w1)
    (hkl : x.key.length ≤ 64) (hvl : x.val.length ≤ 64) (hE : Ext w w1) : LetS w (w2.setCell ⟨w.heap.size + 1, 2, none⟩ (.slice A5 (done.length + 1) c5)) kind level (done ++ [x]) := by
  have hx6 := setCell_exc w2 (w.heap.size + 1) 2 (.slice A5 (done.length + 1) c5)
  have hb6 := heap_setCell_same w2 (w.heap.size + 1) 2 _ _ (.slice A5 (done.length + 1) c5) hb2
  have hlit : ∀ {v bs}, LitIn (w.heap.size + 2) bs v w1 → LitIn (w.heap.size + 2) bs v (w2.setCell ⟨w.heap.size + 1, 2, none⟩ (.slice A5 (done.length + 1) c5)) := fun h =>
    (h.exc hX2 (fun k cs fr _ ⟨_, _, e⟩ => by injection e with _ e; exact absurd e (by decide))).exc hx6 (fun k cs fr h1 h2 => by omega)
  refine ⟨A5, c5, ps ++ [(kv, vv)], ?_, ?_, ?_, ?_, ?_⟩
  · simpa using hb6
  · exact hx6.blk (hX2.blk hb0 (fun h => by have := h.1; omega)) (by omega)
  · exact ownsRow_exc hrow hx6 (fun k cs h1 h2 => by omega)
  · exact (heach.mono (E' := fun v bs => bs.length ≤ 64 ∧ LitIn (w.heap.size + 2) bs v (w2.setCell ⟨w.heap.size + 1, 2, none⟩ (.slice A5 (done.length + 1) c5))) (fun v bs h => ⟨h.1, hlit h.2⟩)).append ⟨⟨hkl, hlit hk⟩, ⟨hvl, hlit hv⟩, trivial⟩
  · exact hx6.to_ext (hX2.to_ext hE (fun k _ h => by have := h.1; omega)) (fun k _ h => by omega)
set_option maxHeartbeats 2000000 in
theorem lettered_any {s : ByteArray} {kind level : Int} {w : World} (hs : s.size ≤ 64) :
    Calls Try.prog 54 #[.int .i64 kind, .int .i64 level, .string s] w fun e w' => ∃ v, e = .returned v ∧ PgV w' v (letPg kind level s.data.toList) ∧ Ext w w' := by
  obtain ⟨i0, hii, hz0, hz1, hz2⟩ := info_parts infoItem
  go_enter Try.func54, Try.ntmps54
  have hb := heap_alloc2_new w (.cells #[.int .i64 0, .int .i64 0, .slice none 0 0, .slice none 0 0, .int .i64 0] 26) (.cells #[.int .i64 kind, .int .i64 level, .slice none 0 0, .slice none 0 0, .int .i64 0] 26)
  have hb0 := heap_alloc2_old w (.cells #[.int .i64 0, .int .i64 0, .slice none 0 0, .slice none 0 0, .int .i64 0] 26) (.cells #[.int .i64 kind, .int .i64 level, .slice none 0 0, .slice none 0 0, .int .i64 0] 26)
  have hE1 := (ext_alloc w (.cells #[.int .i64 0, .int .i64 0, .slice none 0 0, .slice none 0 0, .int .i64 0] 26)).trans (ext_alloc _ (.cells #[.int .i64 kind, .int .i64 level, .slice none 0 0, .slice none 0 0, .int .i64 0] 26))
  go_wp2
  have hS : LetS w _ kind level (letIts kind 0 (s.data.toList.take 0)) := ⟨none, 0, [], hb, hb0, RowI.nil _ _, trivial, hE1⟩
  clear hb hE1 hb0
  go_loopw [8] (fun i wr => ∃ k : Nat, k ≤ s.size ∧ i = .int .i64 k ∧ LetS w wr kind level (letIts kind 0 (s.data.toList.take k))) (fun i _ => s.size - (intOf i).toNat)
  case atStart => exact ⟨0, Nat.zero_le _, rfl, hS⟩
  case round =>
    clear hS
    obtain ⟨k, hk, rfl, hS⟩ := hrel
    obtain ⟨iA, ic, ps, hA⟩ := hS.ex
    by_cases hlt : k < s.size
    rotate_left
    · obtain rfl : k = s.size := by omega
      have htk : s.data.toList.take s.size = s.data.toList := List.take_of_length_le (by simp)
      rw [htk] at hA
      have hlen : (letIts kind 0 s.data.toList).length ≤ 64 := by rw [letIts_length]; simpa using hs
      generalize hdn : letIts kind 0 s.data.toList = done at hA hlen
      have HDN := Lib.hid hdn
      have c0 := cell_of_row wr (w.heap.size + 1) 0 _ _ _ hA.b1
      have c1 := cell_of_row wr (w.heap.size + 1) 1 _ _ _ hA.b1
      have c2 := cell_of_row wr (w.heap.size + 1) 2 _ _ _ hA.b1
      have c3 := cell_of_row wr (w.heap.size + 1) 3 _ _ _ hA.b1
      have c4 := cell_of_row wr (w.heap.size + 1) 4 _ _ _ hA.b1
      simp at c0 c1 c2 c3 c4
      have hb0 := hA.b0
      clear hdn htk hS hk
      go_wp2_with (refine wpList_store_box rfl 26 _ _ rfl w.heap.size _ rfl rfl 26 _ hb0 (by kernel_rfl) rfl (by simp [Value.oneCell']) (fun w4 hb hg => ?_))
      have hx := Exc.of_only (D := fun q _ => q = w.heap.size) hg (fun _ _ => rfl)
      have hrow := ownsRow_exc hA.row hx (fun q cs h1 h2 => by omega)
      have hits := RowI.its (l := done) hrow hA.each (fun v bs ⟨h1, h2⟩ => (h2.exc hx (fun q cs fr h3 h4 => by omega)).sl h1) (by omega)
      exact bodyPost_ret (results_cell_row rfl _ _ _ _ _ _ _ rfl hb Try.underlying26 rfl (by kernel_rfl)) rfl ⟨_, rfl, ⟨iA, ic, none, 0, by simp only [letPg]; rw [HDN.out]; rfl, by simp only [letPg]; rw [HDN.out]; exact hits, ⟨Rd.nil _ _, by simp [letPg], by simp [letPg], by decide⟩⟩, ext_only hA.e hg (Nat.le_refl _)⟩
    · have htk := take_u8 hlt
      have hsn : letIts kind 0 (s.data.toList.take (k + 1)) = letIts kind 0 (s.data.toList.take k) ++ [letIt kind k s[k]] := by
        rw [htk, letIts_snoc, Nat.zero_add, List.length_take]
        congr 3
        have : s.data.toList.length = s.size := by simp
        omega
      have hlen : (letIts kind 0 (s.data.toList.take k)).length ≤ 64 := by rw [letIts_length, List.length_take]; omega
      generalize hdn : letIts kind 0 (s.data.toList.take k) = done at hA hlen hsn
      have HSN := Lib.hid hsn
      clear hdn hsn htk hS
      clear hk
      by_cases hc : (s[k].toNat : Int) = 45
      · have c1 : ((s[k].toNat : Int) != 45) = false := by simp [hc]
        have HC := Lib.hid (show (s[k] = 45) = True from propext (by rw [← u8_toNat45]; simp [hc]))
        clear hc
        go_upto_region 8 with fail
        refine wp_cut (fun W => Ext wr W ∧ W.heap[wr.heap.size]? = some (.cells #[.slice none 0 0, .slice none 0 0, .int .i64 (3 + k), .int .i64 0] 51) ∧ LitIn (w.heap.size + 2) [] (.slice none 0 0) W) ⟨?_, ?_, ?_⟩ ?_
        · exact ext_alloc _ _
        · exact heap_alloc_new _ _
        · exact LitIn.nil_ _ _
        rintro W ⟨hE, hb, hlk⟩
        clear c1
        by_cases h1 : kind = 1
        · have ck : (kind == 1) = true := by simp [h1]
          have HK1 := Lib.hid h1
          clear h1 hlk
          go_upto_region 9 with fail
          have hsz : w.heap.size + 2 ≤ wr.heap.size := (Array.getElem?_eq_some_iff.1 hA.b1).1
          have hszW : wr.heap.size + 1 ≤ W.heap.size := (Array.getElem?_eq_some_iff.1 hb).1
          refine wp_region_rg (Exc fun q _ => q = wr.heap.size) (rel_exc _) (fun w' => w'.heap[wr.heap.size]? = some (.cells #[.slice none 0 0, .slice none 0 0, .int .i64 (3 + k), .int .i64 0] 51)) [0, 1, 2, 3, 4, 5, 6, 7, 8, 9] (fun i => match i with
            | 3 => some fun V => Built 5 (wr.heap.size + 1) #[V 2]
            | 7 => some fun V => Built 5 (wr.heap.size + 1) #[V 6, .int .u8 1]
            | _ => none) (fun i => match i with
            | 9 => some fun V _ => StoredI wr.heap.size (V 8)
            | _ => none) (fun _ => false) (by kernel_rfl) (by kernel_rfl) (fun _ _ h he => he.blk h) hb (fun W2 N hW hF0 hN => ?_)
          have hEW : Exc (fun q _ => q = wr.heap.size) W W2 := Exc.of_ext hW
          have hD : ∀ (q : Nat) (o : Obj), q = wr.heap.size → q < wr.heap.size + 1 := fun q _ hq => by omega
          repeat (first | (apply wpR_one; (case ho => (simp only [List.getElem?_toArray, List.getElem?_cons_succ, List.getElem?_cons_zero]; try exact rfl)); (case hw => rfl); (case hl => rfl); (case hsp => rfl); (case he => rfl); (case hv => (intro w' hw'; (try (have hw2 := Ext.trans hEW hw')); (try (have hw3 := Exc.trans hEW hw')); (try (have hw4 := Exk.trans hEW hw')); (try (have hw5 := Mrk.trans hEW hw')); go_simp; exact rfl)); (case hw0 => (first | exact Below.refl _ _ | exact Exc.of_ext (Below.refl _ _) | exact Exk.of_ext (Below.refl _ _) | exact Mrk.of_ext (Below.refl _ _))); simp only [Act.put, List.setIfInBounds_toArray, List.set_cons_succ, List.set_cons_zero]) | (apply wpR_early; (case ho => (simp only [List.getElem?_toArray, List.getElem?_cons_succ, List.getElem?_cons_zero]; try exact rfl)); (case hw => rfl); (case hl => rfl); (case hsp => rfl); (case he => rfl); (case hv => (intro w' hw'; (try have hw2 := Ext.trans hEW hw'); go_simp; exact rfl)); simp only [Act.put, List.setIfInBounds_toArray, List.set_cons_succ, List.set_cons_zero]) | (apply wpR_pass; (case ho => (simp only [List.getElem?_toArray, List.getElem?_cons_succ, List.getElem?_cons_zero]; try exact rfl)); (case hw => rfl); (case hl => rfl); simp only [Act.put, List.setIfInBounds_toArray, List.set_cons_succ, List.set_cons_zero]))
          refine wpR_new (by ((simp only [List.getElem?_toArray, List.getElem?_cons_succ, List.getElem?_cons_zero]; try exact rfl))) _ rfl rfl rfl (fun V v => Built.lasts hD _ _) (fun V V' h => by simp only [h 2 (by kernel_rfl)]) (fun w' hw' hK => ?_) (fun v hv => ?_)
          · have hXs := (hEW.trans hw').size
            unfold opAt
            go_simp
            exact upAt_value ⟨ext_alloc _ _, _, rfl, by omega, heap_alloc_new _ _⟩
          obtain ⟨g1, rfl⟩ : ∃ g1, v = .slice (some ⟨g1, 0, none⟩) 1 1 := by
            obtain ⟨_, _, _, h, e, _⟩ := hv
            exact ⟨h, e⟩
          clear hv
          simp only [Act.put, List.setIfInBounds_toArray, List.set_cons_succ, List.set_cons_zero]
          repeat (first | (apply wpR_one; (case ho => (simp only [List.getElem?_toArray, List.getElem?_cons_succ, List.getElem?_cons_zero]; try exact rfl)); (case hw => rfl); (case hl => rfl); (case hsp => rfl); (case he => rfl); (case hv => (intro w' hw'; (try (have hw2 := Ext.trans hEW hw')); (try (have hw3 := Exc.trans hEW hw')); (try (have hw4 := Exk.trans hEW hw')); (try (have hw5 := Mrk.trans hEW hw')); go_simp; exact rfl)); (case hw0 => (first | exact Below.refl _ _ | exact Exc.of_ext (Below.refl _ _) | exact Exk.of_ext (Below.refl _ _) | exact Mrk.of_ext (Below.refl _ _))); simp only [Act.put, List.setIfInBounds_toArray, List.set_cons_succ, List.set_cons_zero]) | (apply wpR_early; (case ho => (simp only [List.getElem?_toArray, List.getElem?_cons_succ, List.getElem?_cons_zero]; try exact rfl)); (case hw => rfl); (case hl => rfl); (case hsp => rfl); (case he => rfl); (case hv => (intro w' hw'; (try have hw2 := Ext.trans hEW hw'); go_simp; exact rfl)); simp only [Act.put, List.setIfInBounds_toArray, List.set_cons_succ, List.set_cons_zero]) | (apply wpR_pass; (case ho => (simp only [List.getElem?_toArray, List.getElem?_cons_succ, List.getElem?_cons_zero]; try exact rfl)); (case hw => rfl); (case hl => rfl); simp only [Act.put, List.setIfInBounds_toArray, List.set_cons_succ, List.set_cons_zero]))
          refine wpR_new (by ((simp only [List.getElem?_toArray, List.getElem?_cons_succ, List.getElem?_cons_zero]; try exact rfl))) _ rfl rfl rfl (fun V v => Built.lasts hD _ _) (fun V V' h => by simp only [h 6 (by kernel_rfl)]) (fun w' hw' hK => ?_) (fun v hv => ?_)
          · have hXs := (hEW.trans hw').size
            unfold opAt
            go_simp
            exact upAt_value ⟨ext_alloc _ _, _, rfl, by omega, heap_alloc_new _ _⟩
          obtain ⟨g2, rfl⟩ : ∃ g2, v = .slice (some ⟨g2, 0, none⟩) 2 2 := by
            obtain ⟨_, _, _, h, e, _⟩ := hv
            exact ⟨h, e⟩
          clear hv
          simp only [Act.put, List.setIfInBounds_toArray, List.set_cons_succ, List.set_cons_zero]
          repeat (first | (apply wpR_one; (case ho => (simp only [List.getElem?_toArray, List.getElem?_cons_succ, List.getElem?_cons_zero]; try exact rfl)); (case hw => rfl); (case hl => rfl); (case hsp => rfl); (case he => rfl); (case hv => (intro w' hw'; (try (have hw2 := Ext.trans hEW hw')); (try (have hw3 := Exc.trans hEW hw')); (try (have hw4 := Exk.trans hEW hw')); (try (have hw5 := Mrk.trans hEW hw')); go_simp; exact rfl)); (case hw0 => (first | exact Below.refl _ _ | exact Exc.of_ext (Below.refl _ _) | exact Exk.of_ext (Below.refl _ _) | exact Mrk.of_ext (Below.refl _ _))); simp only [Act.put, List.setIfInBounds_toArray, List.set_cons_succ, List.set_cons_zero]) | (apply wpR_early; (case ho => (simp only [List.getElem?_toArray, List.getElem?_cons_succ, List.getElem?_cons_zero]; try exact rfl)); (case hw => rfl); (case hl => rfl); (case hsp => rfl); (case he => rfl); (case hv => (intro w' hw'; (try have hw2 := Ext.trans hEW hw'); go_simp; exact rfl)); simp only [Act.put, List.setIfInBounds_toArray, List.set_cons_succ, List.set_cons_zero]) | (apply wpR_pass; (case ho => (simp only [List.getElem?_toArray, List.getElem?_cons_succ, List.getElem?_cons_zero]; try exact rfl)); (case hw => rfl); (case hl => rfl); simp only [Act.put, List.setIfInBounds_toArray, List.set_cons_succ, List.set_cons_zero]))
          refine wpR_late (by ((simp only [List.getElem?_toArray, List.getElem?_cons_succ, List.getElem?_cons_zero]; try exact rfl))) _ rfl rfl (fun V v w' w2 h he => h.ext he) (fun V V' h => by simp only [h 8 (by kernel_rfl)]) (fun w' hw' hK hF => ?_) (fun v hv => ?_)
          · refine opAt_list rfl #[] (fun Q hQ => ?_)
            refine wpList_store_box rfl 51 _ _ rfl wr.heap.size _ rfl rfl 51 _ hF (by kernel_rfl) rfl (by simp [Value.oneCell']) (fun w2 hb hg => ?_)
            exact hQ _ _ ⟨Exc.of_only hg (fun _ _ => rfl), _, rfl, hb⟩
          clear hv
          simp only [Act.put, List.setIfInBounds_toArray, List.set_cons_succ, List.set_cons_zero]
          repeat (first | (apply wpR_one; (case ho => (simp only [List.getElem?_toArray, List.getElem?_cons_succ, List.getElem?_cons_zero]; try exact rfl)); (case hw => rfl); (case hl => rfl); (case hsp => rfl); (case he => rfl); (case hv => (intro w' hw'; (try (have hw2 := Ext.trans hEW hw')); (try (have hw3 := Exc.trans hEW hw')); (try (have hw4 := Exk.trans hEW hw')); (try (have hw5 := Mrk.trans hEW hw')); go_simp; exact rfl)); (case hw0 => (first | exact Below.refl _ _ | exact Exc.of_ext (Below.refl _ _) | exact Exk.of_ext (Below.refl _ _) | exact Mrk.of_ext (Below.refl _ _))); simp only [Act.put, List.setIfInBounds_toArray, List.set_cons_succ, List.set_cons_zero]) | (apply wpR_early; (case ho => (simp only [List.getElem?_toArray, List.getElem?_cons_succ, List.getElem?_cons_zero]; try exact rfl)); (case hw => rfl); (case hl => rfl); (case hsp => rfl); (case he => rfl); (case hv => (intro w' hw'; (try have hw2 := Ext.trans hEW hw'); go_simp; exact rfl)); simp only [Act.put, List.setIfInBounds_toArray, List.set_cons_succ, List.set_cons_zero]) | (apply wpR_pass; (case ho => (simp only [List.getElem?_toArray, List.getElem?_cons_succ, List.getElem?_cons_zero]; try exact rfl)); (case hw => rfl); (case hl => rfl); simp only [Act.put, List.setIfInBounds_toArray, List.set_cons_succ, List.set_cons_zero]))
          apply wpR_nil
          apply hN
          intro w5 hE' hK hF
          have hO1 : Built 5 (wr.heap.size + 1) #[.int .u8 s[k].toNat] (.slice (some ⟨g1, 0, none⟩) 1 1) w5 := (hK 3).2
          have hO2 : Built 5 (wr.heap.size + 1) #[.int .u8 s[k].toNat, .int .u8 1] (.slice (some ⟨g2, 0, none⟩) 2 2) w5 := (hK 7).2
          obtain ⟨cs, hcs, hb5⟩ := hF
          injection hcs with hcs
          subst hcs
          have hlk : LitIn (w.heap.size + 2) [s[k]] _ w5 := LitIn.built hO1 (by omega)
          have hlv : LitIn (w.heap.size + 2) [s[k], 1] _ w5 := LitIn.built hO2 (by omega)
          have hE5 : Ext wr w5 := (hEW.trans hE').to_ext hE (fun q _ hq => by omega)
          clear hO1 hO2 hK hN hEW hE' hE hD hF0 hW hb hsz hszW
          have hE := hE5
          have hb := hb5
          clear hE5 hb5
          have HIT := Lib.hid (show letIt kind k s[k] = ⟨[s[k]], [s[k], 1], 0, 2⟩ by unfold letIt; rw [if_pos HK1.out])
          clear HC HK1
          have hA4 := hA.ext hE
          have hsz : w.heap.size + 2 ≤ wr.heap.size := (Array.getElem?_eq_some_iff.1 hA.b1).1
          have hszW : wr.heap.size + 1 ≤ w5.heap.size := (Array.getElem?_eq_some_iff.1 hb).1
          have c2 := cell_of_row w5 (w.heap.size + 1) 2 _ _ _ hA4.b1
          simp at c2
          have x0 := cell_of_row w5 wr.heap.size 0 _ _ _ hb
          have x1 := cell_of_row w5 wr.heap.size 1 _ _ _ hb
          have x2 := cell_of_row w5 wr.heap.size 2 _ _ _ hb
          have x3 := cell_of_row w5 wr.heap.size 3 _ _ _ hb
          simp at x0 x1 x2 x3
          have hrow := RowI.ext hA4.row (ext_alloc w5 (.cells #[.slice (some ⟨g1, 0, none⟩) 1 1, .slice (some ⟨g2, 0, none⟩) 2 2, .int .i64 0, .int .i64 2] 51))
          have hb1 := (ext_alloc w5 (.cells #[.slice (some ⟨g1, 0, none⟩) 1 1, .slice (some ⟨g2, 0, none⟩) 2 2, .int .i64 0, .int .i64 2] 51)).blk hA4.b1
          have hEW := hA4.e.trans (ext_alloc w5 (.cells #[.slice (some ⟨g1, 0, none⟩) 1 1, .slice (some ⟨g2, 0, none⟩) 2 2, .int .i64 0, .int .i64 2] 51))
          have hlK := LitIn.ext hlk (ext_alloc w5 (.cells #[.slice (some ⟨g1, 0, none⟩) 1 1, .slice (some ⟨g2, 0, none⟩) 2 2, .int .i64 0, .int .i64 2] 51))
          have hlV := LitIn.ext hlv (ext_alloc w5 (.cells #[.slice (some ⟨g1, 0, none⟩) 1 1, .slice (some ⟨g2, 0, none⟩) 2 2, .int .i64 0, .int .i64 2] 51))
          have heach := Each.mono (E' := fun v bs => bs.length ≤ 64 ∧ LitIn (w.heap.size + 2) bs v (w5.alloc (.cells #[.slice (some ⟨g1, 0, none⟩) 1 1, .slice (some ⟨g2, 0, none⟩) 2 2, .int .i64 0, .int .i64 2] 51))) (fun v bs h => ⟨h.1, LitIn.ext h.2 (ext_alloc w5 (.cells #[.slice (some ⟨g1, 0, none⟩) 1 1, .slice (some ⟨g2, 0, none⟩) 2 2, .int .i64 0, .int .i64 2] 51))⟩) hA4.each
          have hz := (ext_alloc w5 (.cells #[.slice (some ⟨g1, 0, none⟩) 1 1, .slice (some ⟨g2, 0, none⟩) 2 2, .int .i64 0, .int .i64 2] 51)).blk hA4.b0
          have hpl := hA4.each.length
          clear hlk hlv hb hA
          go_wp2_with (at_builtin; refine wpList_append_own _ rfl _ _ 23 rfl (w.heap.size + 2) 51 i0 _ 4 64 Try.underlying23 hii hz0 hz1 hz2 rfl (by decide) _ _ _ rfl hrow ⟨w5.heap.size, 0, none⟩ 1 1 [.slice (some ⟨g1, 0, none⟩) 1 1, .slice (some ⟨g2, 0, none⟩) 2 2, .int .i64 0, .int .i64 2] rfl rfl (news4 _ _ _ _ _ _ _) (by simp [Value.oneCell']) (by simp [maxLen]; omega) (by omega) (by simp; omega) ?_; intro v' w2 hown2 hgrow2 _; obtain ⟨A5, c5, rfl, hrow5⟩ := RowI.push hpl (x := ⟨[s[k]], [s[k], 1], 0, 2⟩) (kv := .slice (some ⟨g1, 0, none⟩) 1 1) (vv := .slice (some ⟨g2, 0, none⟩) 2 2) rfl hown2; have hX2 := Exc.of_grown (D := fun q o => w.heap.size + 2 ≤ q ∧ ∃ cs, o = .cells cs 51 (0, 0)) hgrow2 (fun g o hg ho => letBlk hrow hg ho); have hb2 := hX2.blk hb1 (fun h => by have := h.1; omega); have d2 := cell_of_row w2 (w.heap.size + 1) 2 _ _ _ hb2; have f2 := frozen_of_row w2 (w.heap.size + 1) 2 _ _ hb2; simp at d2)
          clear hown2
          go_wp2
          go_roundw
          case rel => exact ⟨k + 1, by omega, by rw [Int.natCast_succ], by rw [HSN.out, HIT.out]; exact letStep hX2 hb2 hz hrow5 heach hlK hlV (by simp) (by simp) hEW⟩
          case measure => simp [intOf]; omega
        · have ck : (kind == 1) = false := by simp [h1]
          have hlv : LitIn (w.heap.size + 2) [] (.slice none 0 0) W := LitIn.nil_ _ _
          have HIT := Lib.hid (show letIt kind k s[k] = ⟨[], [], 3 + k, 0⟩ by unfold letIt; rw [if_neg h1]; simp only [HC.out, if_true, if_false])
          clear HC h1
          go_upto_region 10 with fail
          have hA4 := hA.ext hE
          have hsz : w.heap.size + 2 ≤ wr.heap.size := (Array.getElem?_eq_some_iff.1 hA.b1).1
          have hszW : wr.heap.size + 1 ≤ W.heap.size := (Array.getElem?_eq_some_iff.1 hb).1
          have c2 := cell_of_row W (w.heap.size + 1) 2 _ _ _ hA4.b1
          simp at c2
          have x0 := cell_of_row W wr.heap.size 0 _ _ _ hb
          have x1 := cell_of_row W wr.heap.size 1 _ _ _ hb
          have x2 := cell_of_row W wr.heap.size 2 _ _ _ hb
          have x3 := cell_of_row W wr.heap.size 3 _ _ _ hb
          simp at x0 x1 x2 x3
          have hrow := RowI.ext hA4.row (ext_alloc W (.cells #[.slice none 0 0, .slice none 0 0, .int .i64 (3 + k), .int .i64 0] 51))
          have hb1 := (ext_alloc W (.cells #[.slice none 0 0, .slice none 0 0, .int .i64 (3 + k), .int .i64 0] 51)).blk hA4.b1
          have hEW := hA4.e.trans (ext_alloc W (.cells #[.slice none 0 0, .slice none 0 0, .int .i64 (3 + k), .int .i64 0] 51))
          have hlK := LitIn.ext hlk (ext_alloc W (.cells #[.slice none 0 0, .slice none 0 0, .int .i64 (3 + k), .int .i64 0] 51))
          have hlV := LitIn.ext hlv (ext_alloc W (.cells #[.slice none 0 0, .slice none 0 0, .int .i64 (3 + k), .int .i64 0] 51))
          have heach := Each.mono (E' := fun v bs => bs.length ≤ 64 ∧ LitIn (w.heap.size + 2) bs v (W.alloc (.cells #[.slice none 0 0, .slice none 0 0, .int .i64 (3 + k), .int .i64 0] 51))) (fun v bs h => ⟨h.1, LitIn.ext h.2 (ext_alloc W (.cells #[.slice none 0 0, .slice none 0 0, .int .i64 (3 + k), .int .i64 0] 51))⟩) hA4.each
          have hz := (ext_alloc W (.cells #[.slice none 0 0, .slice none 0 0, .int .i64 (3 + k), .int .i64 0] 51)).blk hA4.b0
          have hpl := hA4.each.length
          clear hlk hlv hb hA
          go_wp2_with (at_builtin; refine wpList_append_own _ rfl _ _ 23 rfl (w.heap.size + 2) 51 i0 _ 4 64 Try.underlying23 hii hz0 hz1 hz2 rfl (by decide) _ _ _ rfl hrow ⟨W.heap.size, 0, none⟩ 1 1 [.slice none 0 0, .slice none 0 0, .int .i64 (3 + k), .int .i64 0] rfl rfl (news4 _ _ _ _ _ _ _) (by simp [Value.oneCell']) (by simp [maxLen]; omega) (by omega) (by simp; omega) ?_; intro v' w2 hown2 hgrow2 _; obtain ⟨A5, c5, rfl, hrow5⟩ := RowI.push hpl (x := ⟨[], [], (3 + k), 0⟩) (kv := .slice none 0 0) (vv := .slice none 0 0) rfl hown2; have hX2 := Exc.of_grown (D := fun q o => w.heap.size + 2 ≤ q ∧ ∃ cs, o = .cells cs 51 (0, 0)) hgrow2 (fun g o hg ho => letBlk hrow hg ho); have hb2 := hX2.blk hb1 (fun h => by have := h.1; omega); have d2 := cell_of_row w2 (w.heap.size + 1) 2 _ _ _ hb2; have f2 := frozen_of_row w2 (w.heap.size + 1) 2 _ _ hb2; simp at d2)
          clear hown2
          go_wp2
          go_roundw
          case rel => exact ⟨k + 1, by omega, by rw [Int.natCast_succ], by rw [HSN.out, HIT.out]; exact letStep hX2 hb2 hz hrow5 heach hlK hlV (by simp) (by simp) hEW⟩
          case measure => simp [intOf]; omega
      · have c1 : ((s[k].toNat : Int) != 45) = true := by simp [hc]
        have HC := Lib.hid (show (s[k] = 45) = False from propext (by rw [← u8_toNat45]; simp [hc]))
        clear hc
        go_upto_region 8 with fail
        refine wp_cut (fun W => Ext wr W ∧ W.heap[wr.heap.size]? = some (.cells #[.slice (some ⟨wr.heap.size + 1, 0, none⟩) 1 1, .slice none 0 0, .int .i64 (3 + k), .int .i64 0] 51) ∧ LitIn (w.heap.size + 2) [s[k]] (.slice (some ⟨wr.heap.size + 1, 0, none⟩) 1 1) W) ⟨?_, ?_, ?_⟩ ?_
        · exact (ext_alloc _ _).trans (ext_alloc _ _)
        · exact heap_alloc2_old _ _ _
        · have hsz : w.heap.size + 2 ≤ wr.heap.size := (Array.getElem?_eq_some_iff.1 hA.b1).1
          exact .inr ⟨wr.heap.size + 1, (0, 0), rfl, by omega, heap_alloc2_new _ _ _⟩
        rintro W ⟨hE, hb, hlk⟩
        clear c1
        by_cases h1 : kind = 1
        · have ck : (kind == 1) = true := by simp [h1]
          have HK1 := Lib.hid h1
          clear h1 hlk
          go_upto_region 9 with fail
          have hsz : w.heap.size + 2 ≤ wr.heap.size := (Array.getElem?_eq_some_iff.1 hA.b1).1
          have hszW : wr.heap.size + 1 ≤ W.heap.size := (Array.getElem?_eq_some_iff.1 hb).1
          refine wp_region_rg (Exc fun q _ => q = wr.heap.size) (rel_exc _) (fun w' => w'.heap[wr.heap.size]? = some (.cells #[.slice (some ⟨wr.heap.size + 1, 0, none⟩) 1 1, .slice none 0 0, .int .i64 (3 + k), .int .i64 0] 51)) [0, 1, 2, 3, 4, 5, 6, 7, 8, 9] (fun i => match i with
            | 3 => some fun V => Built 5 (wr.heap.size + 1) #[V 2]
            | 7 => some fun V => Built 5 (wr.heap.size + 1) #[V 6, .int .u8 1]
            | _ => none) (fun i => match i with
            | 9 => some fun V _ => StoredI wr.heap.size (V 8)
            | _ => none) (fun _ => false) (by kernel_rfl) (by kernel_rfl) (fun _ _ h he => he.blk h) hb (fun W2 N hW hF0 hN => ?_)
          have hEW : Exc (fun q _ => q = wr.heap.size) W W2 := Exc.of_ext hW
          have hD : ∀ (q : Nat) (o : Obj), q = wr.heap.size → q < wr.heap.size + 1 := fun q _ hq => by omega
          repeat (first | (apply wpR_one; (case ho => (simp only [List.getElem?_toArray, List.getElem?_cons_succ, List.getElem?_cons_zero]; try exact rfl)); (case hw => rfl); (case hl => rfl); (case hsp => rfl); (case he => rfl); (case hv => (intro w' hw'; (try (have hw2 := Ext.trans hEW hw')); (try (have hw3 := Exc.trans hEW hw')); (try (have hw4 := Exk.trans hEW hw')); (try (have hw5 := Mrk.trans hEW hw')); go_simp; exact rfl)); (case hw0 => (first | exact Below.refl _ _ | exact Exc.of_ext (Below.refl _ _) | exact Exk.of_ext (Below.refl _ _) | exact Mrk.of_ext (Below.refl _ _))); simp only [Act.put, List.setIfInBounds_toArray, List.set_cons_succ, List.set_cons_zero]) | (apply wpR_early; (case ho => (simp only [List.getElem?_toArray, List.getElem?_cons_succ, List.getElem?_cons_zero]; try exact rfl)); (case hw => rfl); (case hl => rfl); (case hsp => rfl); (case he => rfl); (case hv => (intro w' hw'; (try have hw2 := Ext.trans hEW hw'); go_simp; exact rfl)); simp only [Act.put, List.setIfInBounds_toArray, List.set_cons_succ, List.set_cons_zero]) | (apply wpR_pass; (case ho => (simp only [List.getElem?_toArray, List.getElem?_cons_succ, List.getElem?_cons_zero]; try exact rfl)); (case hw => rfl); (case hl => rfl); simp only [Act.put, List.setIfInBounds_toArray, List.set_cons_succ, List.set_cons_zero]))
          refine wpR_new (by ((simp only [List.getElem?_toArray, List.getElem?_cons_succ, List.getElem?_cons_zero]; try exact rfl))) _ rfl rfl rfl (fun V v => Built.lasts hD _ _) (fun V V' h => by simp only [h 2 (by kernel_rfl)]) (fun w' hw' hK => ?_) (fun v hv => ?_)
          · have hXs := (hEW.trans hw').size
            unfold opAt
            go_simp
            exact upAt_value ⟨ext_alloc _ _, _, rfl, by omega, heap_alloc_new _ _⟩
          obtain ⟨g1, rfl⟩ : ∃ g1, v = .slice (some ⟨g1, 0, none⟩) 1 1 := by
            obtain ⟨_, _, _, h, e, _⟩ := hv
            exact ⟨h, e⟩
          clear hv
          simp only [Act.put, List.setIfInBounds_toArray, List.set_cons_succ, List.set_cons_zero]
          repeat (first | (apply wpR_one; (case ho => (simp only [List.getElem?_toArray, List.getElem?_cons_succ, List.getElem?_cons_zero]; try exact rfl)); (case hw => rfl); (case hl => rfl); (case hsp => rfl); (case he => rfl); (case hv => (intro w' hw'; (try (have hw2 := Ext.trans hEW hw')); (try (have hw3 := Exc.trans hEW hw')); (try (have hw4 := Exk.trans hEW hw')); (try (have hw5 := Mrk.trans hEW hw')); go_simp; exact rfl)); (case hw0 => (first | exact Below.refl _ _ | exact Exc.of_ext (Below.refl _ _) | exact Exk.of_ext (Below.refl _ _) | exact Mrk.of_ext (Below.refl _ _))); simp only [Act.put, List.setIfInBounds_toArray, List.set_cons_succ, List.set_cons_zero]) | (apply wpR_early; (case ho => (simp only [List.getElem?_toArray, List.getElem?_cons_succ, List.getElem?_cons_zero]; try exact rfl)); (case hw => rfl); (case hl => rfl); (case hsp => rfl); (case he => rfl); (case hv => (intro w' hw'; (try have hw2 := Ext.trans hEW hw'); go_simp; exact rfl)); simp only [Act.put, List.setIfInBounds_toArray, List.set_cons_succ, List.set_cons_zero]) | (apply wpR_pass; (case ho => (simp only [List.getElem?_toArray, List.getElem?_cons_succ, List.getElem?_cons_zero]; try exact rfl)); (case hw => rfl); (case hl => rfl); simp only [Act.put, List.setIfInBounds_toArray, List.set_cons_succ, List.set_cons_zero]))
          refine wpR_new (by ((simp only [List.getElem?_toArray, List.getElem?_cons_succ, List.getElem?_cons_zero]; try exact rfl))) _ rfl rfl rfl (fun V v => Built.lasts hD _ _) (fun V V' h => by simp only [h 6 (by kernel_rfl)]) (fun w' hw' hK => ?_) (fun v hv => ?_)
          · have hXs := (hEW.trans hw').size
            unfold opAt
            go_simp
            exact upAt_value ⟨ext_alloc _ _, _, rfl, by omega, heap_alloc_new _ _⟩
          obtain ⟨g2, rfl⟩ : ∃ g2, v = .slice (some ⟨g2, 0, none⟩) 2 2 := by
            obtain ⟨_, _, _, h, e, _⟩ := hv
            exact ⟨h, e⟩
          clear hv
          simp only [Act.put, List.setIfInBounds_toArray, List.set_cons_succ, List.set_cons_zero]
          repeat (first | (apply wpR_one; (case ho => (simp only [List.getElem?_toArray, List.getElem?_cons_succ, List.getElem?_cons_zero]; try exact rfl)); (case hw => rfl); (case hl => rfl); (case hsp => rfl); (case he => rfl); (case hv => (intro w' hw'; (try (have hw2 := Ext.trans hEW hw')); (try (have hw3 := Exc.trans hEW hw')); (try (have hw4 := Exk.trans hEW hw')); (try (have hw5 := Mrk.trans hEW hw')); go_simp; exact rfl)); (case hw0 => (first | exact Below.refl _ _ | exact Exc.of_ext (Below.refl _ _) | exact Exk.of_ext (Below.refl _ _) | exact Mrk.of_ext (Below.refl _ _))); simp only [Act.put, List.setIfInBounds_toArray, List.set_cons_succ, List.set_cons_zero]) | (apply wpR_early; (case ho => (simp only [List.getElem?_toArray, List.getElem?_cons_succ, List.getElem?_cons_zero]; try exact rfl)); (case hw => rfl); (case hl => rfl); (case hsp => rfl); (case he => rfl); (case hv => (intro w' hw'; (try have hw2 := Ext.trans hEW hw'); go_simp; exact rfl)); simp only [Act.put, List.setIfInBounds_toArray, List.set_cons_succ, List.set_cons_zero]) | (apply wpR_pass; (case ho => (simp only [List.getElem?_toArray, List.getElem?_cons_succ, List.getElem?_cons_zero]; try exact rfl)); (case hw => rfl); (case hl => rfl); simp only [Act.put, List.setIfInBounds_toArray, List.set_cons_succ, List.set_cons_zero]))
          refine wpR_late (by ((simp only [List.getElem?_toArray, List.getElem?_cons_succ, List.getElem?_cons_zero]; try exact rfl))) _ rfl rfl (fun V v w' w2 h he => h.ext he) (fun V V' h => by simp only [h 8 (by kernel_rfl)]) (fun w' hw' hK hF => ?_) (fun v hv => ?_)
          · refine opAt_list rfl #[] (fun Q hQ => ?_)
            refine wpList_store_box rfl 51 _ _ rfl wr.heap.size _ rfl rfl 51 _ hF (by kernel_rfl) rfl (by simp [Value.oneCell']) (fun w2 hb hg => ?_)
            exact hQ _ _ ⟨Exc.of_only hg (fun _ _ => rfl), _, rfl, hb⟩
          clear hv
          simp only [Act.put, List.setIfInBounds_toArray, List.set_cons_succ, List.set_cons_zero]
          repeat (first | (apply wpR_one; (case ho => (simp only [List.getElem?_toArray, List.getElem?_cons_succ, List.getElem?_cons_zero]; try exact rfl)); (case hw => rfl); (case hl => rfl); (case hsp => rfl); (case he => rfl); (case hv => (intro w' hw'; (try (have hw2 := Ext.trans hEW hw')); (try (have hw3 := Exc.trans hEW hw')); (try (have hw4 := Exk.trans hEW hw')); (try (have hw5 := Mrk.trans hEW hw')); go_simp; exact rfl)); (case hw0 => (first | exact Below.refl _ _ | exact Exc.of_ext (Below.refl _ _) | exact Exk.of_ext (Below.refl _ _) | exact Mrk.of_ext (Below.refl _ _))); simp only [Act.put, List.setIfInBounds_toArray, List.set_cons_succ, List.set_cons_zero]) | (apply wpR_early; (case ho => (simp only [List.getElem?_toArray, List.getElem?_cons_succ, List.getElem?_cons_zero]; try exact rfl)); (case hw => rfl); (case hl => rfl); (case hsp => rfl); (case he => rfl); (case hv => (intro w' hw'; (try have hw2 := Ext.trans hEW hw'); go_simp; exact rfl)); simp only [Act.put, List.setIfInBounds_toArray, List.set_cons_succ, List.set_cons_zero]) | (apply wpR_pass; (case ho => (simp only [List.getElem?_toArray, List.getElem?_cons_succ, List.getElem?_cons_zero]; try exact rfl)); (case hw => rfl); (case hl => rfl); simp only [Act.put, List.setIfInBounds_toArray, List.set_cons_succ, List.set_cons_zero]))
          apply wpR_nil
          apply hN
          intro w5 hE' hK hF
          have hO1 : Built 5 (wr.heap.size + 1) #[.int .u8 s[k].toNat] (.slice (some ⟨g1, 0, none⟩) 1 1) w5 := (hK 3).2
          have hO2 : Built 5 (wr.heap.size + 1) #[.int .u8 s[k].toNat, .int .u8 1] (.slice (some ⟨g2, 0, none⟩) 2 2) w5 := (hK 7).2
          obtain ⟨cs, hcs, hb5⟩ := hF
          injection hcs with hcs
          subst hcs
          have hlk : LitIn (w.heap.size + 2) [s[k]] _ w5 := LitIn.built hO1 (by omega)
          have hlv : LitIn (w.heap.size + 2) [s[k], 1] _ w5 := LitIn.built hO2 (by omega)
          have hE5 : Ext wr w5 := (hEW.trans hE').to_ext hE (fun q _ hq => by omega)
          clear hO1 hO2 hK hN hEW hE' hE hD hF0 hW hb hsz hszW
          have hE := hE5
          have hb := hb5
          clear hE5 hb5
          have HIT := Lib.hid (show letIt kind k s[k] = ⟨[s[k]], [s[k], 1], 0, 2⟩ by unfold letIt; rw [if_pos HK1.out])
          clear HC HK1
          have hA4 := hA.ext hE
          have hsz : w.heap.size + 2 ≤ wr.heap.size := (Array.getElem?_eq_some_iff.1 hA.b1).1
          have hszW : wr.heap.size + 1 ≤ w5.heap.size := (Array.getElem?_eq_some_iff.1 hb).1
          have c2 := cell_of_row w5 (w.heap.size + 1) 2 _ _ _ hA4.b1
          simp at c2
          have x0 := cell_of_row w5 wr.heap.size 0 _ _ _ hb
          have x1 := cell_of_row w5 wr.heap.size 1 _ _ _ hb
          have x2 := cell_of_row w5 wr.heap.size 2 _ _ _ hb
          have x3 := cell_of_row w5 wr.heap.size 3 _ _ _ hb
          simp at x0 x1 x2 x3
          have hrow := RowI.ext hA4.row (ext_alloc w5 (.cells #[.slice (some ⟨g1, 0, none⟩) 1 1, .slice (some ⟨g2, 0, none⟩) 2 2, .int .i64 0, .int .i64 2] 51))
          have hb1 := (ext_alloc w5 (.cells #[.slice (some ⟨g1, 0, none⟩) 1 1, .slice (some ⟨g2, 0, none⟩) 2 2, .int .i64 0, .int .i64 2] 51)).blk hA4.b1
          have hEW := hA4.e.trans (ext_alloc w5 (.cells #[.slice (some ⟨g1, 0, none⟩) 1 1, .slice (some ⟨g2, 0, none⟩) 2 2, .int .i64 0, .int .i64 2] 51))
          have hlK := LitIn.ext hlk (ext_alloc w5 (.cells #[.slice (some ⟨g1, 0, none⟩) 1 1, .slice (some ⟨g2, 0, none⟩) 2 2, .int .i64 0, .int .i64 2] 51))
          have hlV := LitIn.ext hlv (ext_alloc w5 (.cells #[.slice (some ⟨g1, 0, none⟩) 1 1, .slice (some ⟨g2, 0, none⟩) 2 2, .int .i64 0, .int .i64 2] 51))
          have heach := Each.mono (E' := fun v bs => bs.length ≤ 64 ∧ LitIn (w.heap.size + 2) bs v (w5.alloc (.cells #[.slice (some ⟨g1, 0, none⟩) 1 1, .slice (some ⟨g2, 0, none⟩) 2 2, .int .i64 0, .int .i64 2] 51))) (fun v bs h => ⟨h.1, LitIn.ext h.2 (ext_alloc w5 (.cells #[.slice (some ⟨g1, 0, none⟩) 1 1, .slice (some ⟨g2, 0, none⟩) 2 2, .int .i64 0, .int .i64 2] 51))⟩) hA4.each
          have hz := (ext_alloc w5 (.cells #[.slice (some ⟨g1, 0, none⟩) 1 1, .slice (some ⟨g2, 0, none⟩) 2 2, .int .i64 0, .int .i64 2] 51)).blk hA4.b0
          have hpl := hA4.each.length
          clear hlk hlv hb hA
          go_wp2_with (at_builtin; refine wpList_append_own _ rfl _ _ 23 rfl (w.heap.size + 2) 51 i0 _ 4 64 Try.underlying23 hii hz0 hz1 hz2 rfl (by decide) _ _ _ rfl hrow ⟨w5.heap.size, 0, none⟩ 1 1 [.slice (some ⟨g1, 0, none⟩) 1 1, .slice (some ⟨g2, 0, none⟩) 2 2, .int .i64 0, .int .i64 2] rfl rfl (news4 _ _ _ _ _ _ _) (by simp [Value.oneCell']) (by simp [maxLen]; omega) (by omega) (by simp; omega) ?_; intro v' w2 hown2 hgrow2 _; obtain ⟨A5, c5, rfl, hrow5⟩ := RowI.push hpl (x := ⟨[s[k]], [s[k], 1], 0, 2⟩) (kv := .slice (some ⟨g1, 0, none⟩) 1 1) (vv := .slice (some ⟨g2, 0, none⟩) 2 2) rfl hown2; have hX2 := Exc.of_grown (D := fun q o => w.heap.size + 2 ≤ q ∧ ∃ cs, o = .cells cs 51 (0, 0)) hgrow2 (fun g o hg ho => letBlk hrow hg ho); have hb2 := hX2.blk hb1 (fun h => by have := h.1; omega); have d2 := cell_of_row w2 (w.heap.size + 1) 2 _ _ _ hb2; have f2 := frozen_of_row w2 (w.heap.size + 1) 2 _ _ hb2; simp at d2)
          clear hown2
          go_wp2
          go_roundw
          case rel => exact ⟨k + 1, by omega, by rw [Int.natCast_succ], by rw [HSN.out, HIT.out]; exact letStep hX2 hb2 hz hrow5 heach hlK hlV (by simp) (by simp) hEW⟩
          case measure => simp [intOf]; omega
        · have ck : (kind == 1) = false := by simp [h1]
          have hlv : LitIn (w.heap.size + 2) [] (.slice none 0 0) W := LitIn.nil_ _ _
          have HIT := Lib.hid (show letIt kind k s[k] = ⟨[s[k]], [], 3 + k, 0⟩ by unfold letIt; rw [if_neg h1]; simp only [HC.out, if_true, if_false])
          clear HC h1
          go_upto_region 10 with fail
          have hA4 := hA.ext hE
          have hsz : w.heap.size + 2 ≤ wr.heap.size := (Array.getElem?_eq_some_iff.1 hA.b1).1
          have hszW : wr.heap.size + 1 ≤ W.heap.size := (Array.getElem?_eq_some_iff.1 hb).1
          have c2 := cell_of_row W (w.heap.size + 1) 2 _ _ _ hA4.b1
          simp at c2
          have x0 := cell_of_row W wr.heap.size 0 _ _ _ hb
          have x1 := cell_of_row W wr.heap.size 1 _ _ _ hb
          have x2 := cell_of_row W wr.heap.size 2 _ _ _ hb
          have x3 := cell_of_row W wr.heap.size 3 _ _ _ hb
          simp at x0 x1 x2 x3
          have hrow := RowI.ext hA4.row (ext_alloc W (.cells #[.slice (some ⟨wr.heap.size + 1, 0, none⟩) 1 1, .slice none 0 0, .int .i64 (3 + k), .int .i64 0] 51))
          have hb1 := (ext_alloc W (.cells #[.slice (some ⟨wr.heap.size + 1, 0, none⟩) 1 1, .slice none 0 0, .int .i64 (3 + k), .int .i64 0] 51)).blk hA4.b1
          have hEW := hA4.e.trans (ext_alloc W (.cells #[.slice (some ⟨wr.heap.size + 1, 0, none⟩) 1 1, .slice none 0 0, .int .i64 (3 + k), .int .i64 0] 51))
          have hlK := LitIn.ext hlk (ext_alloc W (.cells #[.slice (some ⟨wr.heap.size + 1, 0, none⟩) 1 1, .slice none 0 0, .int .i64 (3 + k), .int .i64 0] 51))
          have hlV := LitIn.ext hlv (ext_alloc W (.cells #[.slice (some ⟨wr.heap.size + 1, 0, none⟩) 1 1, .slice none 0 0, .int .i64 (3 + k), .int .i64 0] 51))
          have heach := Each.mono (E' := fun v bs => bs.length ≤ 64 ∧ LitIn (w.heap.size + 2) bs v (W.alloc (.cells #[.slice (some ⟨wr.heap.size + 1, 0, none⟩) 1 1, .slice none 0 0, .int .i64 (3 + k), .int .i64 0] 51))) (fun v bs h => ⟨h.1, LitIn.ext h.2 (ext_alloc W (.cells #[.slice (some ⟨wr.heap.size + 1, 0, none⟩) 1 1, .slice none 0 0, .int .i64 (3 + k), .int .i64 0] 51))⟩) hA4.each
          have hz := (ext_alloc W (.cells #[.slice (some ⟨wr.heap.size + 1, 0, none⟩) 1 1, .slice none 0 0, .int .i64 (3 + k), .int .i64 0] 51)).blk hA4.b0
          have hpl := hA4.each.length
          clear hlk hlv hb hA
          go_wp2_with (at_builtin; refine wpList_append_own _ rfl _ _ 23 rfl (w.heap.size + 2) 51 i0 _ 4 64 Try.underlying23 hii hz0 hz1 hz2 rfl (by decide) _ _ _ rfl hrow ⟨W.heap.size, 0, none⟩ 1 1 [.slice (some ⟨wr.heap.size + 1, 0, none⟩) 1 1, .slice none 0 0, .int .i64 (3 + k), .int .i64 0] rfl rfl (news4 _ _ _ _ _ _ _) (by simp [Value.oneCell']) (by simp [maxLen]; omega) (by omega) (by simp; omega) ?_; intro v' w2 hown2 hgrow2 _; obtain ⟨A5, c5, rfl, hrow5⟩ := RowI.push hpl (x := ⟨[s[k]], [], (3 + k), 0⟩) (kv := .slice (some ⟨wr.heap.size + 1, 0, none⟩) 1 1) (vv := .slice none 0 0) rfl hown2; have hX2 := Exc.of_grown (D := fun q o => w.heap.size + 2 ≤ q ∧ ∃ cs, o = .cells cs 51 (0, 0)) hgrow2 (fun g o hg ho => letBlk hrow hg ho); have hb2 := hX2.blk hb1 (fun h => by have := h.1; omega); have d2 := cell_of_row w2 (w.heap.size + 1) 2 _ _ _ hb2; have f2 := frozen_of_row w2 (w.heap.size + 1) 2 _ _ hb2; simp at d2)
          clear hown2
          go_wp2
          go_roundw
          case rel => exact ⟨k + 1, by omega, by rw [Int.natCast_succ], by rw [HSN.out, HIT.out]; exact letStep hX2 hb2 hz hrow5 heach hlK hlV (by simp) (by simp) hEW⟩
          case measure => simp [intOf]; omega
end Go.Proofs.Ytjjbckdiojleeaa
