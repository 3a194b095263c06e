/- Layer 10: the document's New. No condition but the sizes. -/
import Derived.Test.YtaalhicdeibodaaPs
namespace Go.Proofs.Ytaalhicdeibodaa
open Go.RowKit Go.Proofs Go.Shelf
set_option linter.unusedVariables false
attribute [local go_sem] Oper.semAt_some
def ZI (B n : Nat) (z : Value) (V : World) : Prop := ∃ g, z = .slice (some ⟨g, 0, none⟩) n n ∧ RowI B V (some ⟨g, 0, none⟩) n (List.replicate n 0)
def ZT (B n : Nat) (z : Value) (V : World) : Prop := ∃ g, z = .slice (some ⟨g, 0, none⟩) n n ∧ RowT B V (some ⟨g, 0, none⟩) n (List.replicate n false)
def ZP (B n : Nat) (refs : Int) (u v z : Value) (V : World) : Prop := ∃ p, z = .pointer (some ⟨p, 0, none⟩) ∧ B ≤ p ∧ V.heap[p]? = some (.cells #[.int .i64 refs, u, v, .slice none 0 0, .int .i64 0] 89 (0, 0))
theorem ZI.lasts (B n : Nat) (z : Value) : Lasts Ext (ZI B n z) := fun w' w2 ⟨g, h1, h2⟩ he => ⟨g, h1, own_ext h2 he⟩
theorem ZT.lasts (B n : Nat) (z : Value) : Lasts Ext (ZT B n z) := fun w' w2 ⟨g, h1, h2⟩ he => ⟨g, h1, own_ext h2 he⟩
theorem ZP.lasts (B n : Nat) (refs : Int) (u v z : Value) : Lasts Ext (ZP B n refs u v z) := fun w' w2 ⟨p, h1, h2, h3⟩ he => ⟨p, h1, h2, he.blk h3⟩
set_option maxRecDepth 100000 in
set_option maxHeartbeats 1000000 in
theorem rnew_pool {w : World} (pages refs : Int) : Calls Try.prog 36 #[.int .i64 pages, .int .i64 refs] w fun e w' => ∃ v, e = .returned (.tuple #[v, .int .i64 (newE pages refs)]) ∧ Ext w w' ∧
    ((¬ newE pages refs = 0 ∧ v = .pointer none) ∨ (newE pages refs = 0 ∧ ∃ r, v = .pointer (some ⟨r.p, 0, none⟩) ∧ RefS w.heap.size 0 w' r (newS refs pages.toNat))) := by
  unfold newE
  by_cases h : rightB pages refs = true
  · rw [if_pos h]
    obtain ⟨i0, hi, hz0, hz1, hz2⟩ := info_split infoI
    obtain ⟨i1, hi1, hy0, hy1, hy2⟩ := info_split infoT
    obtain ⟨h1, h2, h3, h4⟩ := of_decide_eq_true h
    obtain ⟨n, rfl⟩ : ∃ n : Nat, pages = n := ⟨pages.toNat, by omega⟩
    clear h
    go_enter Try.func36, Try.ntmps36
    go_wp2
    refine wp_region_rg Ext rel_ext (fun _ => True) [0, 1, 2, 3, 4, 5, 6, 7, 8] (fun i => match i with
      | 2 => some fun _ z V => ZI w.heap.size n z V
      | 4 => some fun _ z V => ZT w.heap.size n z V
      | 6 => some fun V z W => ZP w.heap.size n refs (V 2) (V 4) z W
      | _ => none) (fun _ => none) (fun _ => false) (by kernel_rfl) (by kernel_rfl) (fun _ _ _ _ => trivial) trivial (fun W N hW _ hN => ?_)
    have hEW := hW
    have hWs := hW.size
    repeat (first | (apply wpR_one; (case ho => (simp only [List.getElem?_toArray, List.getElem?_cons_succ, List.getElem?_cons_zero]; try exact rfl)); (case hw => rfl); (case hl => rfl); (case hsp => rfl); (case he => rfl); (case hv => (intro w' hw'; (try (have hw2 := Ext.trans hEW hw')); (try (have hw3 := Exc.trans hEW hw')); (try (have hw4 := Exk.trans hEW hw')); (try (have hw5 := Mrk.trans hEW hw')); go_simp; exact rfl)); (case hw0 => (first | exact Below.refl _ _ | exact Exc.of_ext (Below.refl _ _) | exact Exk.of_ext (Below.refl _ _) | exact Mrk.of_ext (Below.refl _ _))); simp only [Act.put, List.setIfInBounds_toArray, List.set_cons_succ, List.set_cons_zero]) | (apply wpR_early; (case ho => (simp only [List.getElem?_toArray, List.getElem?_cons_succ, List.getElem?_cons_zero]; try exact rfl)); (case hw => rfl); (case hl => rfl); (case hsp => rfl); (case he => rfl); (case hv => (intro w' hw'; (try have hw2 := Ext.trans hEW hw'); go_simp; exact rfl)); simp only [Act.put, List.setIfInBounds_toArray, List.set_cons_succ, List.set_cons_zero]) | (apply wpR_pass; (case ho => (simp only [List.getElem?_toArray, List.getElem?_cons_succ, List.getElem?_cons_zero]; try exact rfl)); (case hw => rfl); (case hl => rfl); simp only [Act.put, List.setIfInBounds_toArray, List.set_cons_succ, List.set_cons_zero]))
    refine wpR_new (by ((simp only [List.getElem?_toArray, List.getElem?_cons_succ, List.getElem?_cons_zero]; try exact rfl))) _ rfl rfl rfl (fun V v => ZI.lasts _ _ _) (fun V V' h => rfl) (fun w' hw' hK => ?_) (fun z hz => ?_)
    · have hs := hw'.size
      refine opAt_list rfl #[] (fun Q hQ => ?_)
      refine wpList_make_full _ rfl _ _ 22 rfl w.heap.size 3 i0 _ 1 Try.underlying22 hi hz0 hz1 .i64 .i64 _ _ n rfl rfl rfl rfl (by rw [hz2]; omega) (by unfold maxLen; omega) (by omega) ?_
      intro w2 ho2 hg2
      rw [made1 _ rfl] at ho2
      refine hQ _ _ ⟨ext_grown0 hg2, _, rfl, ?_⟩
      unfold RowI
      rw [List.length_replicate, show ic (List.replicate n 0) = List.replicate n (Value.int .i64 0) by simp [ic]]
      exact ho2
    obtain ⟨g1, rfl⟩ : ∃ g, z = .slice (some ⟨g, 0, none⟩) n n := by
      obtain ⟨_, _, _, g, h, _⟩ := hz
      exact ⟨g, h⟩
    clear hz
    simp only [Act.put, List.setIfInBounds_toArray, List.set_cons_succ, List.set_cons_zero]
    repeat (first | (apply wpR_one; (case ho => (simp only [List.getElem?_toArray, List.getElem?_cons_succ, List.getElem?_cons_zero]; try exact rfl)); (case hw => rfl); (case hl => rfl); (case hsp => rfl); (case he => rfl); (case hv => (intro w' hw'; (try (have hw2 := Ext.trans hEW hw')); (try (have hw3 := Exc.trans hEW hw')); (try (have hw4 := Exk.trans hEW hw')); (try (have hw5 := Mrk.trans hEW hw')); go_simp; exact rfl)); (case hw0 => (first | exact Below.refl _ _ | exact Exc.of_ext (Below.refl _ _) | exact Exk.of_ext (Below.refl _ _) | exact Mrk.of_ext (Below.refl _ _))); simp only [Act.put, List.setIfInBounds_toArray, List.set_cons_succ, List.set_cons_zero]) | (apply wpR_early; (case ho => (simp only [List.getElem?_toArray, List.getElem?_cons_succ, List.getElem?_cons_zero]; try exact rfl)); (case hw => rfl); (case hl => rfl); (case hsp => rfl); (case he => rfl); (case hv => (intro w' hw'; (try have hw2 := Ext.trans hEW hw'); go_simp; exact rfl)); simp only [Act.put, List.setIfInBounds_toArray, List.set_cons_succ, List.set_cons_zero]) | (apply wpR_pass; (case ho => (simp only [List.getElem?_toArray, List.getElem?_cons_succ, List.getElem?_cons_zero]; try exact rfl)); (case hw => rfl); (case hl => rfl); simp only [Act.put, List.setIfInBounds_toArray, List.set_cons_succ, List.set_cons_zero]))
    refine wpR_new (by ((simp only [List.getElem?_toArray, List.getElem?_cons_succ, List.getElem?_cons_zero]; try exact rfl))) _ rfl rfl rfl (fun V v => ZT.lasts _ _ _) (fun V V' h => rfl) (fun w' hw' hK => ?_) (fun z hz => ?_)
    · have hs := hw'.size
      refine opAt_list rfl #[] (fun Q hQ => ?_)
      refine wpList_make_full _ rfl _ _ 69 rfl w.heap.size 4 i1 _ 1 Try.underlying69 hi1 hy0 hy1 .i64 .i64 _ _ n rfl rfl rfl rfl (by rw [hy2]; omega) (by unfold maxLen; omega) (by omega) ?_
      intro w2 ho2 hg2
      rw [made1 _ rfl] at ho2
      refine hQ _ _ ⟨ext_grown0 hg2, _, rfl, ?_⟩
      unfold RowT
      rw [List.length_replicate, show bc (List.replicate n false) = List.replicate n (Value.bool false) by simp [bc]]
      exact ho2
    obtain ⟨g2, rfl⟩ : ∃ g, z = .slice (some ⟨g, 0, none⟩) n n := by
      obtain ⟨_, _, _, g, h, _⟩ := hz
      exact ⟨g, h⟩
    clear hz
    simp only [Act.put, List.setIfInBounds_toArray, List.set_cons_succ, List.set_cons_zero]
    repeat (first | (apply wpR_one; (case ho => (simp only [List.getElem?_toArray, List.getElem?_cons_succ, List.getElem?_cons_zero]; try exact rfl)); (case hw => rfl); (case hl => rfl); (case hsp => rfl); (case he => rfl); (case hv => (intro w' hw'; (try (have hw2 := Ext.trans hEW hw')); (try (have hw3 := Exc.trans hEW hw')); (try (have hw4 := Exk.trans hEW hw')); (try (have hw5 := Mrk.trans hEW hw')); go_simp; exact rfl)); (case hw0 => (first | exact Below.refl _ _ | exact Exc.of_ext (Below.refl _ _) | exact Exk.of_ext (Below.refl _ _) | exact Mrk.of_ext (Below.refl _ _))); simp only [Act.put, List.setIfInBounds_toArray, List.set_cons_succ, List.set_cons_zero]) | (apply wpR_early; (case ho => (simp only [List.getElem?_toArray, List.getElem?_cons_succ, List.getElem?_cons_zero]; try exact rfl)); (case hw => rfl); (case hl => rfl); (case hsp => rfl); (case he => rfl); (case hv => (intro w' hw'; (try have hw2 := Ext.trans hEW hw'); go_simp; exact rfl)); simp only [Act.put, List.setIfInBounds_toArray, List.set_cons_succ, List.set_cons_zero]) | (apply wpR_pass; (case ho => (simp only [List.getElem?_toArray, List.getElem?_cons_succ, List.getElem?_cons_zero]; try exact rfl)); (case hw => rfl); (case hl => rfl); simp only [Act.put, List.setIfInBounds_toArray, List.set_cons_succ, List.set_cons_zero]))
    refine wpR_new (by ((simp only [List.getElem?_toArray, List.getElem?_cons_succ, List.getElem?_cons_zero]; try exact rfl))) _ rfl rfl rfl (fun V v => ZP.lasts _ _ _ _ _ _) (fun V V' h => by have h1 := h 2 (by kernel_rfl); have h2 := h 4 (by kernel_rfl); simp only [h1, h2]) (fun w' hw' hK => ?_) (fun z hz => ?_)
    · have hs := hw'.size
      unfold opAt
      go_simp
      exact upAt_value ⟨ext_alloc _ _, w'.heap.size, rfl, by omega, heap_alloc_new _ _⟩
    obtain ⟨p, rfl⟩ : ∃ g, z = .pointer (some ⟨g, 0, none⟩) := by
      obtain ⟨_, _, _, g, h, _⟩ := hz
      exact ⟨g, h⟩
    clear hz
    simp only [Act.put, List.setIfInBounds_toArray, List.set_cons_succ, List.set_cons_zero]
    repeat (first | (apply wpR_one; (case ho => (simp only [List.getElem?_toArray, List.getElem?_cons_succ, List.getElem?_cons_zero]; try exact rfl)); (case hw => rfl); (case hl => rfl); (case hsp => rfl); (case he => rfl); (case hv => (intro w' hw'; (try (have hw2 := Ext.trans hEW hw')); (try (have hw3 := Exc.trans hEW hw')); (try (have hw4 := Exk.trans hEW hw')); (try (have hw5 := Mrk.trans hEW hw')); go_simp; exact rfl)); (case hw0 => (first | exact Below.refl _ _ | exact Exc.of_ext (Below.refl _ _) | exact Exk.of_ext (Below.refl _ _) | exact Mrk.of_ext (Below.refl _ _))); simp only [Act.put, List.setIfInBounds_toArray, List.set_cons_succ, List.set_cons_zero]) | (apply wpR_early; (case ho => (simp only [List.getElem?_toArray, List.getElem?_cons_succ, List.getElem?_cons_zero]; try exact rfl)); (case hw => rfl); (case hl => rfl); (case hsp => rfl); (case he => rfl); (case hv => (intro w' hw'; (try have hw2 := Ext.trans hEW hw'); go_simp; exact rfl)); simp only [Act.put, List.setIfInBounds_toArray, List.set_cons_succ, List.set_cons_zero]) | (apply wpR_pass; (case ho => (simp only [List.getElem?_toArray, List.getElem?_cons_succ, List.getElem?_cons_zero]; try exact rfl)); (case hw => rfl); (case hl => rfl); simp only [Act.put, List.setIfInBounds_toArray, List.set_cons_succ, List.set_cons_zero]))
    apply wpR_nil
    apply hN
    intro w2 hE2 hK _
    have hE := hEW.trans hE2
    have K2 : True ∧ ZI w.heap.size n (.slice (some ⟨g1, 0, none⟩) n n) w2 := hK 2
    have K4 : True ∧ ZT w.heap.size n (.slice (some ⟨g2, 0, none⟩) n n) w2 := hK 4
    have K6 : True ∧ ZP w.heap.size n refs (.slice (some ⟨g1, 0, none⟩) n n) (.slice (some ⟨g2, 0, none⟩) n n) (.pointer (some ⟨p, 0, none⟩)) w2 := hK 6
    obtain ⟨g1', e1, k1⟩ := K2.2
    have hg1 : g1 = g1' := by simpa using e1
    subst hg1
    obtain ⟨g2', e2, k2⟩ := K4.2
    have hg2 : g2 = g2' := by simpa using e2
    subst hg2
    obtain ⟨p', e3, k3, k4⟩ := K6.2
    have hp : p = p' := by simpa using e3
    subst hp
    have k4' : w2.heap[p]? = some (.cells #[.int .i64 refs, .slice (some ⟨g1, 0, none⟩) n n, .slice (some ⟨g2, 0, none⟩) n n, .slice none 0 0, .int .i64 0] 89 (0, 0)) := k4
    have hR : RefS w.heap.size 0 w2 ⟨p, some ⟨g1, 0, none⟩, n, some ⟨g2, 0, none⟩, n, none, 0⟩ (newS refs n) := by
      refine ⟨new_ok ⟨h3, by omega⟩ (by omega), ?_, k1, k2, World.ownsRow_nil _ _ _ _, k3⟩
      show w2.heap[p]? = some (.cells (refC _ refs (List.replicate n 0).length (List.replicate n false).length 0 0) _ _)
      rw [List.length_replicate, List.length_replicate]
      exact k4'
    clear K2 K4 K6 hK hN hW hEW hE2 e1 e2 e3 k1 k2 k3 k4 k4'
    go_wp2
    refine bodyPost_ret (results_tmp2 rfl _ _ _) rfl ?_
    exact ⟨_, rfl, hE, .inr ⟨by trivial, _, rfl, by rw [Int.toNat_natCast]; exact hR⟩⟩
  · rw [if_neg h]
    have h' : ¬ (1 ≤ pages ∧ pages ≤ 65536 ∧ 2 ≤ refs ∧ refs < 65536) := fun e => h (decide_eq_true e)
    clear h
    by_cases h1 : 1 ≤ pages <;> by_cases h2 : pages ≤ 65536 <;> by_cases h3 : 2 ≤ refs <;> by_cases h4 : refs < 65536
    all_goals first
      | (exfalso; exact h' ⟨h1, h2, h3, h4⟩)
      | (clear h'
         go_enter Try.func36, Try.ntmps36
         go_wp2
         refine bodyPost_ret (results_tmp2 rfl _ _ _) rfl ?_
         first | exact ⟨rfl, Below.refl _ _⟩ | exact ⟨_, rfl, Below.refl _ _, .inl ⟨by decide, rfl⟩⟩)
end Go.Proofs.Ytaalhicdeibodaa
