/- Contracts of coppiceref12: with, Remove, Insert, Replace. No condition but that what comes in lies in memory. -/
import Derived.Test.YtjjbckdiojleeaaNput
import Derived.Test.YtjjbckdiojleeaaCopypg
namespace Go.Proofs.Ytjjbckdiojleeaa
set_option linter.unusedVariables false
open Go.RowKit Go.Proofs
set_option maxHeartbeats 1000000 in
theorem rwith_any {v : Value} {p : Pg} {A : Option Addr} {c n : Nat} {l : List It} {w : World} (hv : PgV w v p) (hl : Its w A c l) (hn : n = l.length) :
    Calls Try.prog 58 #[v, .slice A n c] w fun e w' => ∃ v', e = .returned v' ∧ PgO w.heap.size w' v' { p with items := l } ∧ Ext w w' := by
  subst hn
  obtain ⟨iA, ic, dA, dc, rfl, hi, hd⟩ := hv.ex
  clear hv
  go_enter Try.func58, Try.ntmps58
  go_wp2
  refine wp_cut (fun W => Ext w W ∧ W.heap[w.heap.size]? = some (.cells #[.int .i64 p.kind, .int .i64 p.level, .slice iA p.items.length ic, .slice dA p.data.length dc, .int .i64 p.next] 26) ∧
    W.heap[w.heap.size + 1]? = some (.cells #[.int .i64 0, .int .i64 0, .slice none 0 0, .slice none 0 0, .int .i64 0] 26)) ⟨(ext_alloc _ _).trans (ext_alloc _ _), heap_alloc2_old _ _ _, heap_alloc2_new _ _ _⟩ ?_
  rintro w1 ⟨hE, hb1, hb2⟩
  have hsz := (Array.getElem?_eq_some_iff.1 hb2).1
  refine wp_region_rg (Exc (fun k _ => k = w.heap.size + 1)) (rel_exc _) (fun w' => w'.heap[w.heap.size + 1]? = some (.cells #[.int .i64 0, .int .i64 0, .slice none 0 0, .slice none 0 0, .int .i64 0] 26)) [0, 1, 2, 3, 4, 5, 6, 7, 8, 9, 10, 11, 12] (fun i => match i with
    | 5 => some fun _ => ItsBy w1.heap.size l
    | 8 => some fun V => DataBy w1.heap.size l p.data (V 5)
    | _ => none) (fun i => match i with
    | 12 => some fun V _ w' => w'.heap[w.heap.size + 1]? = some (.cells #[.int .i64 p.kind, .int .i64 p.level, V 5, V 8, .int .i64 p.next] 26)
    | _ => none) (fun _ => false) (by kernel_rfl) (by kernel_rfl) (fun _ _ h he => he.blk h) hb2 (fun W N hW hF0 hN => ?_)
  have hEW : Exc (fun k _ => k = w.heap.size + 1) w1 W := Exc.of_ext hW
  have hD : ∀ (k : Nat) (o : Obj), k = w.heap.size + 1 → k < w1.heap.size := fun k _ hk => by omega
  have e0 : ∀ w', Exc (fun k _ => k = w.heap.size + 1) w1 w' → w'.cell? ⟨w.heap.size, 0, none⟩ = some (.int .i64 p.kind) := fun w' h => cell_of_row _ _ _ _ _ _ (h.blk hb1 (by omega))
  have e1 : ∀ w', Exc (fun k _ => k = w.heap.size + 1) w1 w' → w'.cell? ⟨w.heap.size, 1, none⟩ = some (.int .i64 p.level) := fun w' h => cell_of_row _ _ _ _ _ _ (h.blk hb1 (by omega))
  have e2 : ∀ w', Exc (fun k _ => k = w.heap.size + 1) w1 w' → w'.cell? ⟨w.heap.size, 2, none⟩ = some (.slice iA p.items.length ic) := fun w' h => cell_of_row _ _ _ _ _ _ (h.blk hb1 (by omega))
  have e3 : ∀ w', Exc (fun k _ => k = w.heap.size + 1) w1 w' → w'.cell? ⟨w.heap.size, 3, none⟩ = some (.slice dA p.data.length dc) := fun w' h => cell_of_row _ _ _ _ _ _ (h.blk hb1 (by omega))
  have e4 : ∀ w', Exc (fun k _ => k = w.heap.size + 1) w1 w' → w'.cell? ⟨w.heap.size, 4, none⟩ = some (.int .i64 p.next) := fun w' h => cell_of_row _ _ _ _ _ _ (h.blk hb1 (by omega))
  have hX : ∀ w', Exc (fun k _ => k = w.heap.size + 1) W w' → Ext w w' := fun w' h => (Exc.trans hEW h).to_ext hE (fun k _ hk => by omega)
  repeat (first | (apply wpR_one; (case ho => (simp only [List.getElem?_toArray, List.getElem?_cons_succ, List.getElem?_cons_zero]; try exact rfl)); (case hw => rfl); (case hl => rfl); (case hsp => rfl); (case he => rfl); (case hv => (intro w' hw'; (try (have hw2 := Ext.trans hEW hw')); (try (have hw3 := Exc.trans hEW hw')); (try (have hw4 := Exk.trans hEW hw')); (try (have hw5 := Mrk.trans hEW hw')); go_simp; exact rfl)); (case hw0 => (first | exact Below.refl _ _ | exact Exc.of_ext (Below.refl _ _) | exact Exk.of_ext (Below.refl _ _) | exact Mrk.of_ext (Below.refl _ _))); simp only [Act.put, List.setIfInBounds_toArray, List.set_cons_succ, List.set_cons_zero]) | (apply wpR_early; (case ho => (simp only [List.getElem?_toArray, List.getElem?_cons_succ, List.getElem?_cons_zero]; try exact rfl)); (case hw => rfl); (case hl => rfl); (case hsp => rfl); (case he => rfl); (case hv => (intro w' hw'; (try have hw2 := Ext.trans hEW hw'); go_simp; exact rfl)); simp only [Act.put, List.setIfInBounds_toArray, List.set_cons_succ, List.set_cons_zero]) | (apply wpR_pass; (case ho => (simp only [List.getElem?_toArray, List.getElem?_cons_succ, List.getElem?_cons_zero]; try exact rfl)); (case hw => rfl); (case hl => rfl); simp only [Act.put, List.setIfInBounds_toArray, List.set_cons_succ, List.set_cons_zero]))
  refine wpR_new (by ((simp only [List.getElem?_toArray, List.getElem?_cons_succ, List.getElem?_cons_zero]; try exact rfl))) _ rfl rfl rfl (fun V v => ItsBy.exc hD _ _) (fun V V' h => rfl) (fun w' hw' hK => ?_) (fun v hv => ?_)
  · unfold opAt; go_simp; refine upAt_enter ?_
    refine (copyItems_any (hl.ext (hX w' hw')) rfl).mono ?_
    rintro e w2 ⟨A1, c1, ps, rfl, ho, hE2⟩
    exact ⟨_, rfl, hE2, A1, c1, ps, rfl, ho.mono (hEW.trans hw').size⟩
  obtain ⟨iA', ic', rfl⟩ : ∃ dA dc, v = .slice dA l.length dc := by
    obtain ⟨_, _, _, A, c, _, h, _⟩ := hv
    exact ⟨A, c, h⟩
  clear hv
  simp only [Act.put, List.setIfInBounds_toArray, List.set_cons_succ, List.set_cons_zero]
  repeat (first | (apply wpR_one; (case ho => (simp only [List.getElem?_toArray, List.getElem?_cons_succ, List.getElem?_cons_zero]; try exact rfl)); (case hw => rfl); (case hl => rfl); (case hsp => rfl); (case he => rfl); (case hv => (intro w' hw'; (try (have hw2 := Ext.trans hEW hw')); (try (have hw3 := Exc.trans hEW hw')); (try (have hw4 := Exk.trans hEW hw')); (try (have hw5 := Mrk.trans hEW hw')); go_simp; exact rfl)); (case hw0 => (first | exact Below.refl _ _ | exact Exc.of_ext (Below.refl _ _) | exact Exk.of_ext (Below.refl _ _) | exact Mrk.of_ext (Below.refl _ _))); simp only [Act.put, List.setIfInBounds_toArray, List.set_cons_succ, List.set_cons_zero]) | (apply wpR_early; (case ho => (simp only [List.getElem?_toArray, List.getElem?_cons_succ, List.getElem?_cons_zero]; try exact rfl)); (case hw => rfl); (case hl => rfl); (case hsp => rfl); (case he => rfl); (case hv => (intro w' hw'; (try have hw2 := Ext.trans hEW hw'); go_simp; exact rfl)); simp only [Act.put, List.setIfInBounds_toArray, List.set_cons_succ, List.set_cons_zero]) | (apply wpR_pass; (case ho => (simp only [List.getElem?_toArray, List.getElem?_cons_succ, List.getElem?_cons_zero]; try exact rfl)); (case hw => rfl); (case hl => rfl); simp only [Act.put, List.setIfInBounds_toArray, List.set_cons_succ, List.set_cons_zero]))
  refine wpR_new (by ((simp only [List.getElem?_toArray, List.getElem?_cons_succ, List.getElem?_cons_zero]; try exact rfl))) _ rfl rfl rfl (fun V v => DataBy.exc hD _ _ _ _) (fun V V' h => by simp only [h 5 (by kernel_rfl)]) (fun w' hw' hK => ?_) (fun v hv => ?_)
  · have hK6 := Lib.hid (hK 5 (by kernel_rfl)).2
    unfold opAt; go_simp; refine upAt_enter ?_
    obtain ⟨A, c, ps', hv6, ho6⟩ := hK6.out
    refine (copyBytes_any (hd.ext (hX w' hw'))).mono ?_
    rintro e w2 ⟨A2, c2, rfl, ho, hE2⟩
    exact ⟨_, rfl, hE2, A, c, ps', A2, c2, hv6, rfl, ho6.ext hE2, ho.mono (hEW.trans hw').size, noShare_all ho6.each ho⟩
  obtain ⟨dA', dc', rfl⟩ : ∃ dA dc, v = .slice dA p.data.length dc := by
    obtain ⟨_, _, _, _, _, _, dA, dc, _, h, _⟩ := hv
    exact ⟨dA, dc, h⟩
  clear hv
  simp only [Act.put, List.setIfInBounds_toArray, List.set_cons_succ, List.set_cons_zero]
  repeat (first | (apply wpR_one; (case ho => (simp only [List.getElem?_toArray, List.getElem?_cons_succ, List.getElem?_cons_zero]; try exact rfl)); (case hw => rfl); (case hl => rfl); (case hsp => rfl); (case he => rfl); (case hv => (intro w' hw'; (try (have hw2 := Ext.trans hEW hw')); (try (have hw3 := Exc.trans hEW hw')); (try (have hw4 := Exk.trans hEW hw')); (try (have hw5 := Mrk.trans hEW hw')); go_simp; exact rfl)); (case hw0 => (first | exact Below.refl _ _ | exact Exc.of_ext (Below.refl _ _) | exact Exk.of_ext (Below.refl _ _) | exact Mrk.of_ext (Below.refl _ _))); simp only [Act.put, List.setIfInBounds_toArray, List.set_cons_succ, List.set_cons_zero]) | (apply wpR_early; (case ho => (simp only [List.getElem?_toArray, List.getElem?_cons_succ, List.getElem?_cons_zero]; try exact rfl)); (case hw => rfl); (case hl => rfl); (case hsp => rfl); (case he => rfl); (case hv => (intro w' hw'; (try have hw2 := Ext.trans hEW hw'); go_simp; exact rfl)); simp only [Act.put, List.setIfInBounds_toArray, List.set_cons_succ, List.set_cons_zero]) | (apply wpR_pass; (case ho => (simp only [List.getElem?_toArray, List.getElem?_cons_succ, List.getElem?_cons_zero]; try exact rfl)); (case hw => rfl); (case hl => rfl); simp only [Act.put, List.setIfInBounds_toArray, List.set_cons_succ, List.set_cons_zero]))
  refine wpR_late (by ((simp only [List.getElem?_toArray, List.getElem?_cons_succ, List.getElem?_cons_zero]; try exact rfl))) _ rfl rfl (fun V v => fun _ _ h he => he.blk h) (fun V V' h => by simp only [h 5 (by kernel_rfl), h 8 (by kernel_rfl)]) (fun w' hw' hK hF => ?_) (fun v hv => ?_)
  · refine opAt_list rfl #[] (fun Q hQ => ?_)
    refine wpList_store_box rfl 26 _ _ rfl (w.heap.size + 1) _ rfl rfl 26 _ hF (by kernel_rfl) rfl (by simp [Value.oneCell']) (fun w2 hb hg => ?_)
    exact hQ _ _ ⟨Exc.of_only hg (fun _ _ => rfl), hb⟩
  clear hv
  apply wpR_nil
  apply hN
  intro w' hE' hK hF
  obtain ⟨A, c, ps', A2, c2, h6, h9, ho6, ho9, hns⟩ := (hK 8).2
  have hE2 := hX w' hE'
  have hbk : w'.heap[w.heap.size + 1]? = some (.cells #[.int .i64 p.kind, .int .i64 p.level, .slice iA' l.length ic', .slice dA' p.data.length dc', .int .i64 p.next] 26) := hF
  injection h6 with h61 _ h62
  injection h9 with h91 _ h92
  subst h61 h62 h91 h92
  have o6 := ho6.mono hE.size
  have o9 := ho9.mono hE.size
  have HN := Lib.hid hns
  clear hK hN hF hns ho6 ho9 e0 e1 e2 e3 e4
  go_wp2
  exact bodyPost_ret (results_cell_row rfl _ _ _ _ _ _ _ rfl hbk Try.underlying26 rfl (by kernel_rfl)) rfl ⟨_, rfl, ⟨iA', ic', dA', dc', ps', rfl, o6, o9, HN.out⟩, hE2⟩
end Go.Proofs.Ytjjbckdiojleeaa
