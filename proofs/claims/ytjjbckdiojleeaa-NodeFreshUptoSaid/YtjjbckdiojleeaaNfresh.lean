/- Contracts of node.fresh and node.parts. No condition but that what comes in lies in memory. -/
import Derived.Test.YtjjbckdiojleeaaClone
import Derived.Test.YtjjbckdiojleeaaCopypg
import Derived.Deep.MidRow
namespace Go.Proofs.Ytjjbckdiojleeaa
set_option linter.unusedVariables false
open Go.RowKit Go.Proofs
theorem upAt_skip {P : Program} {o : Oper} {a : Act} {G : Value → World → Prop} {w : World} (h : G undef w) : upAt P o a G (.ok .skip w) := ⟨undef, rfl, h⟩
theorem SOwn.exc' {g : Nat} {e : TypeId} {B : Nat} {bs : List UInt8} (hB : g < B) (v : Value) : Lasts (Exc fun k _ => k = g) (SOwn e B bs v) := fun w w' h hx => h.exc hx (fun k cs h1 h2 => by omega)
set_option maxHeartbeats 1000000 in
theorem nfresh_any {kA vA : Option Addr} {kc vc : Nat} {x : It} {w : World} (hk : Sl w kA kc x.key) (hv : Sl w vA vc x.val) :
    Calls Try.prog 77 #[.agg #[.slice kA x.key.length kc, .slice vA x.val.length vc, .int .i64 x.ch, .int .i64 x.sz]] w fun e w' => ∃ kA' kc' vA' vc',
      e = .returned (.agg #[.slice kA' x.key.length kc', .slice vA' x.val.length vc', .int .i64 x.ch, .int .i64 x.sz]) ∧
      Own 5 w.heap.size w' kA' kc' x.key ∧ Own 5 w.heap.size w' vA' vc' x.val ∧ NoShare (.slice kA' x.key.length kc') (.slice vA' x.val.length vc') ∧ Ext w w' := by
  go_enter Try.func77, Try.ntmps77
  go_wp2
  refine wp_cut (fun W => Ext w W ∧ W.heap[w.heap.size]? = some (.cells #[.slice kA x.key.length kc, .slice vA x.val.length vc, .int .i64 x.ch, .int .i64 x.sz] 51) ∧
    W.heap[w.heap.size + 1]? = some (.cells #[.slice none 0 0, .slice none 0 0, .int .i64 0, .int .i64 0] 51)) ⟨(ext_alloc _ _).trans (ext_alloc _ _), heap_alloc2_old _ _ _, heap_alloc2_new _ _ _⟩ ?_
  rintro w1 ⟨hE, hb1, hb2⟩
  have hsz := (Array.getElem?_eq_some_iff.1 hb2).1
  refine wp_region_rg (Exc fun k _ => k = w.heap.size) (rel_exc _) (fun w' => w'.heap[w.heap.size]? = some (.cells #[.slice kA x.key.length kc, .slice vA x.val.length vc, .int .i64 x.ch, .int .i64 x.sz] 51)) [0, 1, 2, 3, 4, 5, 6, 7, 8, 9] (fun i => match i with
    | 2 => some fun _ => SOwn 5 w1.heap.size x.key
    | 5 => some fun V v w' => NoShare (V 2) v ∧ SOwn 5 w1.heap.size x.val v w'
    | _ => none) (fun i => match i with
    | 7 => some fun V _ w' => w'.heap[w.heap.size]? = some (.cells #[V 2, .slice vA x.val.length vc, .int .i64 x.ch, .int .i64 x.sz] 51)
    | 9 => some fun V _ w' => w'.heap[w.heap.size]? = some (.cells #[V 2, V 5, .int .i64 x.ch, .int .i64 x.sz] 51)
    | _ => none) (fun i => match i with | 1 => true | 4 => true | _ => false) (by kernel_rfl) (by kernel_rfl) (fun _ _ h he => he.blk h) hb1 (fun W N hW hF0 hN => ?_)
  have hEW : Exc (fun k _ => k = w.heap.size) w1 W := Exc.of_ext hW
  have e0 : ∀ w', Ext W w' → w'.cell? ⟨w.heap.size, 0, none⟩ = some (.slice kA x.key.length kc) := fun w' h => cell_of_row _ _ _ _ _ _ ((hW.trans h).blk hb1)
  have e1 : ∀ w', Ext W w' → w'.cell? ⟨w.heap.size, 1, none⟩ = some (.slice vA x.val.length vc) := fun w' h => cell_of_row _ _ _ _ _ _ ((hW.trans h).blk hb1)
  have hX : ∀ w', Exc (fun k _ => k = w.heap.size) W w' → Ext w w' := fun w' h => (Exc.trans hEW h).to_ext hE (fun k _ hk => by omega)
  repeat (first | (apply wpR_one; (case ho => (simp only [List.getElem?_toArray, List.getElem?_cons_succ, List.getElem?_cons_zero]; try exact rfl)); (case hw => rfl); (case hl => rfl); (case hsp => rfl); (case he => rfl); (case hv => (intro w' hw'; (try (have hw2 := Ext.trans hEW hw')); (try (have hw3 := Exc.trans hEW hw')); (try (have hw4 := Exk.trans hEW hw')); (try (have hw5 := Mrk.trans hEW hw')); go_simp; exact rfl)); (case hw0 => (first | exact Below.refl _ _ | exact Exc.of_ext (Below.refl _ _) | exact Exk.of_ext (Below.refl _ _) | exact Mrk.of_ext (Below.refl _ _))); simp only [Act.put, List.setIfInBounds_toArray, List.set_cons_succ, List.set_cons_zero]) | (apply wpR_early; (case ho => (simp only [List.getElem?_toArray, List.getElem?_cons_succ, List.getElem?_cons_zero]; try exact rfl)); (case hw => rfl); (case hl => rfl); (case hsp => rfl); (case he => rfl); (case hv => (intro w' hw'; (try have hw2 := Ext.trans hEW hw'); go_simp; exact rfl)); simp only [Act.put, List.setIfInBounds_toArray, List.set_cons_succ, List.set_cons_zero]) | (apply wpR_pass; (case ho => (simp only [List.getElem?_toArray, List.getElem?_cons_succ, List.getElem?_cons_zero]; try exact rfl)); (case hw => rfl); (case hl => rfl); simp only [Act.put, List.setIfInBounds_toArray, List.set_cons_succ, List.set_cons_zero]))
  refine wpR_new (by ((simp only [List.getElem?_toArray, List.getElem?_cons_succ, List.getElem?_cons_zero]; try exact rfl))) _ rfl rfl rfl (fun V v => SOwn.exc' (g := w.heap.size) (B := w1.heap.size) (by omega) _) (fun V V' h => rfl) (fun w' hw' hK => ?_) (fun v hv => ?_)
  · unfold opAt; go_simp; refine upAt_enter ?_
    refine (clone_any (hk.ext (hX w' hw')) rfl).mono ?_
    rintro e w2 ⟨A, c, rfl, ho, hE2⟩
    exact ⟨_, rfl, hE2, A, c, rfl, ho.mono (hEW.trans hw').size⟩
  obtain ⟨kA', kc', rfl⟩ : ∃ A c, v = .slice A x.key.length c := by
    obtain ⟨_, _, _, A, c, h, _⟩ := hv
    exact ⟨A, c, h⟩
  clear hv
  simp only [Act.put, List.setIfInBounds_toArray, List.set_cons_succ, List.set_cons_zero]
  repeat (first | (apply wpR_one; (case ho => (simp only [List.getElem?_toArray, List.getElem?_cons_succ, List.getElem?_cons_zero]; try exact rfl)); (case hw => rfl); (case hl => rfl); (case hsp => rfl); (case he => rfl); (case hv => (intro w' hw'; (try (have hw2 := Ext.trans hEW hw')); (try (have hw3 := Exc.trans hEW hw')); (try (have hw4 := Exk.trans hEW hw')); (try (have hw5 := Mrk.trans hEW hw')); go_simp; exact rfl)); (case hw0 => (first | exact Below.refl _ _ | exact Exc.of_ext (Below.refl _ _) | exact Exk.of_ext (Below.refl _ _) | exact Mrk.of_ext (Below.refl _ _))); simp only [Act.put, List.setIfInBounds_toArray, List.set_cons_succ, List.set_cons_zero]) | (apply wpR_early; (case ho => (simp only [List.getElem?_toArray, List.getElem?_cons_succ, List.getElem?_cons_zero]; try exact rfl)); (case hw => rfl); (case hl => rfl); (case hsp => rfl); (case he => rfl); (case hv => (intro w' hw'; (try have hw2 := Ext.trans hEW hw'); go_simp; exact rfl)); simp only [Act.put, List.setIfInBounds_toArray, List.set_cons_succ, List.set_cons_zero]) | (apply wpR_pass; (case ho => (simp only [List.getElem?_toArray, List.getElem?_cons_succ, List.getElem?_cons_zero]; try exact rfl)); (case hw => rfl); (case hl => rfl); simp only [Act.put, List.setIfInBounds_toArray, List.set_cons_succ, List.set_cons_zero]))
  refine wpR_new (by ((simp only [List.getElem?_toArray, List.getElem?_cons_succ, List.getElem?_cons_zero]; try exact rfl))) _ rfl rfl rfl (fun V v => Lasts.pure.and (SOwn.exc' (g := w.heap.size) (B := w1.heap.size) (by omega) _)) (fun V V' h => by simp only [h 2 (by kernel_rfl)]) (fun w' hw' hK => ?_) (fun v hv => ?_)
  · have k2 := Lib.hid (hK 2 (by kernel_rfl)).2
    unfold opAt; go_simp; refine upAt_enter ?_
    refine (clone_any (hv.ext (hX w' hw')) rfl).mono ?_
    rintro e w2 ⟨A, c, rfl, ho, hE2⟩
    exact ⟨_, rfl, hE2, k2.out.noShare (Nat.le_refl _) ho, A, c, rfl, ho.mono (hEW.trans hw').size⟩
  obtain ⟨vA', vc', rfl⟩ : ∃ A c, v = .slice A x.val.length c := by
    obtain ⟨_, _, _, _, A, c, h, _⟩ := hv
    exact ⟨A, c, h⟩
  clear hv
  simp only [Act.put, List.setIfInBounds_toArray, List.set_cons_succ, List.set_cons_zero]
  repeat (first | (apply wpR_one; (case ho => (simp only [List.getElem?_toArray, List.getElem?_cons_succ, List.getElem?_cons_zero]; try exact rfl)); (case hw => rfl); (case hl => rfl); (case hsp => rfl); (case he => rfl); (case hv => (intro w' hw'; (try (have hw2 := Ext.trans hEW hw')); (try (have hw3 := Exc.trans hEW hw')); (try (have hw4 := Exk.trans hEW hw')); (try (have hw5 := Mrk.trans hEW hw')); go_simp; exact rfl)); (case hw0 => (first | exact Below.refl _ _ | exact Exc.of_ext (Below.refl _ _) | exact Exk.of_ext (Below.refl _ _) | exact Mrk.of_ext (Below.refl _ _))); simp only [Act.put, List.setIfInBounds_toArray, List.set_cons_succ, List.set_cons_zero]) | (apply wpR_early; (case ho => (simp only [List.getElem?_toArray, List.getElem?_cons_succ, List.getElem?_cons_zero]; try exact rfl)); (case hw => rfl); (case hl => rfl); (case hsp => rfl); (case he => rfl); (case hv => (intro w' hw'; (try have hw2 := Ext.trans hEW hw'); go_simp; exact rfl)); simp only [Act.put, List.setIfInBounds_toArray, List.set_cons_succ, List.set_cons_zero]) | (apply wpR_pass; (case ho => (simp only [List.getElem?_toArray, List.getElem?_cons_succ, List.getElem?_cons_zero]; try exact rfl)); (case hw => rfl); (case hl => rfl); simp only [Act.put, List.setIfInBounds_toArray, List.set_cons_succ, List.set_cons_zero]))
  refine wpR_late (by ((simp only [List.getElem?_toArray, List.getElem?_cons_succ, List.getElem?_cons_zero]; try exact rfl))) _ rfl rfl (fun V v => fun _ _ h he => he.blk h) (fun V V' h => by simp only [h 2 (by kernel_rfl)]) (fun w' hw' hK hF => ?_) (fun v hv => ?_)
  · have hF2 : w'.heap[w.heap.size]? = some (.cells #[.slice kA x.key.length kc, .slice vA x.val.length vc, .int .i64 x.ch, .int .i64 x.sz] 51) := hF
    have c0 := cell_of_row w' w.heap.size 0 _ _ _ hF2
    have f0 := frozen_of_row w' w.heap.size 0 _ _ hF2
    have hb := heap_setCell_same w' w.heap.size 0 _ _ (.slice kA' x.key.length kc') hF2
    clear hF hF2 e0 e1
    unfold opAt
    go_simp
    exact upAt_skip ⟨setCell_exc _ _ _ _, hb⟩
  clear hv
  simp only [Act.put, List.setIfInBounds_toArray, List.set_cons_succ, List.set_cons_zero]
  repeat (first | (apply wpR_one; (case ho => (simp only [List.getElem?_toArray, List.getElem?_cons_succ, List.getElem?_cons_zero]; try exact rfl)); (case hw => rfl); (case hl => rfl); (case hsp => rfl); (case he => rfl); (case hv => (intro w' hw'; (try (have hw2 := Ext.trans hEW hw')); (try (have hw3 := Exc.trans hEW hw')); (try (have hw4 := Exk.trans hEW hw')); (try (have hw5 := Mrk.trans hEW hw')); go_simp; exact rfl)); (case hw0 => (first | exact Below.refl _ _ | exact Exc.of_ext (Below.refl _ _) | exact Exk.of_ext (Below.refl _ _) | exact Mrk.of_ext (Below.refl _ _))); simp only [Act.put, List.setIfInBounds_toArray, List.set_cons_succ, List.set_cons_zero]) | (apply wpR_early; (case ho => (simp only [List.getElem?_toArray, List.getElem?_cons_succ, List.getElem?_cons_zero]; try exact rfl)); (case hw => rfl); (case hl => rfl); (case hsp => rfl); (case he => rfl); (case hv => (intro w' hw'; (try have hw2 := Ext.trans hEW hw'); go_simp; exact rfl)); simp only [Act.put, List.setIfInBounds_toArray, List.set_cons_succ, List.set_cons_zero]) | (apply wpR_pass; (case ho => (simp only [List.getElem?_toArray, List.getElem?_cons_succ, List.getElem?_cons_zero]; try exact rfl)); (case hw => rfl); (case hl => rfl); simp only [Act.put, List.setIfInBounds_toArray, List.set_cons_succ, List.set_cons_zero]))
  refine wpR_late (by ((simp only [List.getElem?_toArray, List.getElem?_cons_succ, List.getElem?_cons_zero]; try exact rfl))) _ rfl rfl (fun V v => fun _ _ h he => he.blk h) (fun V V' h => by simp only [h 2 (by kernel_rfl), h 5 (by kernel_rfl)]) (fun w' hw' hK hF => ?_) (fun v hv => ?_)
  · have hF2 : w'.heap[w.heap.size]? = some (.cells #[.slice kA' x.key.length kc', .slice vA x.val.length vc, .int .i64 x.ch, .int .i64 x.sz] 51) := hF
    have c0 := cell_of_row w' w.heap.size 1 _ _ _ hF2
    have f0 := frozen_of_row w' w.heap.size 1 _ _ hF2
    have hb := heap_setCell_same w' w.heap.size 1 _ _ (.slice vA' x.val.length vc') hF2
    clear hF hF2 e0 e1
    unfold opAt
    go_simp
    exact upAt_skip ⟨setCell_exc _ _ _ _, hb⟩
  clear hv
  apply wpR_nil
  apply hN
  intro w' hE' hK hF
  have hF2 : w'.heap[w.heap.size]? = some (.cells #[.slice kA' x.key.length kc', .slice vA' x.val.length vc', .int .i64 x.ch, .int .i64 x.sz] 51) := hF
  have k2 : SOwn 5 w1.heap.size x.key (.slice kA' x.key.length kc') w' := (hK 2).2
  have k5 : NoShare (.slice kA' x.key.length kc') (.slice vA' x.val.length vc') ∧ SOwn 5 w1.heap.size x.val (.slice vA' x.val.length vc') w' := (hK 5).2
  have hE2 := hX w' hE'
  have hb2' := (hEW.trans hE').blk hb2 (by omega)
  have o2 := k2.own
  have o5 := k5.2.own
  have n5 := Lib.hid k5.1
  clear hK hN hF e0 e1 k2 k5 hX hEW hE' hb1 hb2
  have c0 := cell_of_row w' w.heap.size 0 _ _ _ hF2
  have c1 := cell_of_row w' w.heap.size 1 _ _ _ hF2
  have c2 := cell_of_row w' w.heap.size 2 _ _ _ hF2
  have c3 := cell_of_row w' w.heap.size 3 _ _ _ hF2
  simp at c0 c1 c2 c3
  go_wp2_with (refine wpList_store_box rfl 51 _ _ rfl (w.heap.size + 1) _ rfl rfl 51 _ hb2' (by kernel_rfl) rfl (by simp [Value.oneCell']) (fun w4 hb hg => ?_))
  exact bodyPost_ret (results_cell_row rfl _ _ _ _ _ _ _ rfl hb Try.underlying51 rfl (by kernel_rfl)) rfl ⟨_, _, _, _, rfl, (o2.only hg hsz).mono hE.size, (o5.only hg hsz).mono hE.size, n5.out, ext_only hE2 hg (by omega)⟩
theorem ret2 {a a' b b' : Value} (h1 : a = a') (h2 : b = b') : Ending.returned (.tuple #[a, b]) = .returned (.tuple #[a', b']) := by rw [h1, h2]
/-- The end of a row of items. -/
def Tail (w : World) (l : List It) (at_ : Nat) (v : Value) : Prop := ∃ A c, v = .slice A (l.length - at_) c ∧ Its w A c (l.drop at_)
theorem Its.tail {w : World} {A : Option Addr} {c : Nat} {l : List It} (h : Its w A c l) {at_ : Nat} (ha : at_ ≤ l.length) : Tail w l at_ (.slice (A.map fun x => x.add (at_ * 4)) (l.length - at_) (c - at_)) := by
  refine ⟨_, _, rfl, ?_⟩
  by_cases hl : l.length = 0
  · have : l = [] := List.eq_nil_of_length_eq_zero hl
    subst this
    simpa using Its.nil w _ (by have := h.cap; omega)
  · obtain ⟨b, o, rfl, _⟩ := h.rd (by omega)
    rw [Option.map_some, Addr.add_mid]
    exact h.drop at_ ha
theorem Its.tail0 {w : World} {A : Option Addr} {l : List It} {at_ : Nat} (ha : l.length ≤ at_) : Tail w l at_ (.slice A (l.length - at_) 0) := by
  refine ⟨_, _, rfl, ?_⟩
  rw [List.drop_eq_nil_of_le ha]
  exact Its.nil w _ (by omega)
set_option maxHeartbeats 400000 in
theorem parts_any {A : Option Addr} {n c at_ : Nat} {l : List It} {w : World} (hI : Its w A c l) (hn : n = l.length) (ha : at_ ≤ l.length) :
    Calls Try.prog 72 #[.slice A n c, .int .i64 (at_ : Nat)] w fun e w' => ∃ v, e = .returned (.tuple #[.slice A at_ at_, v]) ∧ (∀ w0, Its w0 A c l → Tail w0 l at_ v) ∧ Ext w w' := by
  subst hn
  have h2 := hI.le
  have h3 := hI.cap
  have i1 : (at_ : Int) ≤ (l.length : Int) := by omega
  have i2 : (at_ : Int) ≤ (c : Int) := by omega
  have i3 : (l.length : Int) ≤ (c : Int) := by omega
  have i0 : (0 : Int) ≤ (at_ : Int) := by omega
  go_enter Try.func72, Try.ntmps72
  go_wp2
  go_quiet (fail)
  go_wp2
  · exact bodyPost_ret (v := .tuple #[.slice A at_ at_, .slice A (l.length - at_) 0]) (by simp [results, Try.results72, go_sem]) rfl ⟨_, rfl, fun w0 _ => Its.tail0 (by omega), ext_drewN _ _⟩
  · exact bodyPost_ret (v := .tuple #[.slice A at_ at_, .slice (A.map fun x => x.add (at_ * 4)) (l.length - at_) (c - at_)]) (by simp [results, Try.results72, go_sem]) rfl ⟨_, rfl, fun w0 h0 => h0.tail ha, ext_drewN _ _⟩
end Go.Proofs.Ytjjbckdiojleeaa
