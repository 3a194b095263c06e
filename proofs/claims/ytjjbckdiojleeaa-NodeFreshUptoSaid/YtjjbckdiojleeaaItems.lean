/- Contracts of the references' functions over items and pages. No condition but that what comes in lies in memory. -/
import Derived.Test.YtjjbckdiojleeaaRefa
namespace Go.Proofs.Ytjjbckdiojleeaa
open Go.RowKit Go.Proofs
/-- What an item's fields lie as. -/
theorem copyItem_any {kA vA : Option Addr} {kc vc : Nat} {key val : List UInt8} {ch sz : Int} {w : World} (hk : Sl w kA kc key) (hv : Sl w vA vc val) :
    Calls Try.prog 48 #[.agg #[.slice kA key.length kc, .slice vA val.length vc, .int .i64 ch, .int .i64 sz]] w fun e w' => ∃ kA' kc' vA' vc',
      e = .returned (.agg #[.slice kA' key.length kc', .slice vA' val.length vc', .int .i64 ch, .int .i64 sz]) ∧
      Own 5 w.heap.size w' kA' kc' key ∧ Own 5 w.heap.size w' vA' vc' val ∧ NoShare (.slice kA' key.length kc') (.slice vA' val.length vc') ∧ Ext w w' := by
  go_enter Try.func48, Try.ntmps48
  go_wp2
  refine wp_cut (fun W => Ext w W ∧ W.heap[w.heap.size]? = some (.cells #[.slice kA key.length kc, .slice vA val.length vc, .int .i64 ch, .int .i64 sz] 51) ∧
    W.heap[w.heap.size + 1]? = some (.cells #[.slice none 0 0, .slice none 0 0, .int .i64 0, .int .i64 0] 51)) ⟨?_, ?_, ?_⟩ ?_
  · exact (ext_alloc _ _).trans (ext_alloc _ _)
  · rw [Below.heap_alloc _ _ _ (by simp)]; exact heap_alloc_new _ _
  · rw [show w.heap.size + 1 = (w.alloc _).heap.size from (World.size_alloc _ _).symm]; exact heap_alloc_new _ _
  rintro w1 ⟨hE, hb1, hb2⟩
  refine wp_region_mild 11 (fun i => match i with
    | 2 => some fun _ => SOwn 5 w1.heap.size key
    | 5 => some fun V v w' => NoShare (V 2) v ∧ SOwn 5 w1.heap.size val v w'
    | _ => none) (by kernel_rfl) (by kernel_rfl) (fun W N hW hN => ?_)
  have hE1 := hE.trans hW
  have e0 : ∀ w', Ext W w' → w'.cell? ⟨w.heap.size, 0, none⟩ = some (.slice kA key.length kc) := fun w' h => cell_of_row _ _ _ _ _ _ ((hW.trans h).blk hb1)
  have e1 : ∀ w', Ext W w' → w'.cell? ⟨w.heap.size, 1, none⟩ = some (.slice vA val.length vc) := fun w' h => cell_of_row _ _ _ _ _ _ ((hW.trans h).blk hb1)
  have e2 : ∀ w', Ext W w' → w'.cell? ⟨w.heap.size, 2, none⟩ = some (.int .i64 ch) := fun w' h => cell_of_row _ _ _ _ _ _ ((hW.trans h).blk hb1)
  have e3 : ∀ w', Ext W w' → w'.cell? ⟨w.heap.size, 3, none⟩ = some (.int .i64 sz) := fun w' h => cell_of_row _ _ _ _ _ _ ((hW.trans h).blk hb1)
  simp only [List.take_succ_cons, List.take_zero]
  repeat (apply wpM_one; (case hg => rfl); (case hsp => rfl); (case hv => (intro w' hw'; go_simp; exact rfl)); simp only [Act.put, List.setIfInBounds_toArray, List.set_cons_succ, List.set_cons_zero])
  refine wpM_new _ rfl rfl (fun V v => SOwn.stable _ _ _ _) (fun V V' h => rfl) (fun w' hw' hK => ?_) (fun v hv => ?_)
  · unfold mildAt; go_simp; rw [mildUpon_enter]
    refine ⟨Below.refl _ _, (copyBytes_any (hk.ext (hE1.trans hw'))).mono ?_⟩
    rintro e w2 ⟨A, c, rfl, ho, hE2⟩
    exact ⟨_, rfl, hE2, A, c, rfl, ho.mono (hW.trans hw').size⟩
  obtain ⟨_, _, _, A1, c1, rfl, _⟩ := hv
  simp only [Act.put, List.setIfInBounds_toArray, List.set_cons_succ, List.set_cons_zero]
  repeat (apply wpM_one; (case hg => rfl); (case hsp => rfl); (case hv => (intro w' hw'; go_simp; exact rfl)); simp only [Act.put, List.setIfInBounds_toArray, List.set_cons_succ, List.set_cons_zero])
  refine wpM_new _ rfl rfl (fun V v => Stable.pure.and (SOwn.stable _ _ _ _)) (fun V V' h => by simp only [h 2 (by kernel_rfl)]) (fun w' hw' hK => ?_) (fun v hv => ?_)
  · have k2 := (hK 2 (by kernel_rfl)).2
    unfold mildAt; go_simp; rw [mildUpon_enter]
    refine ⟨Below.refl _ _, (copyBytes_any (hv.ext (hE1.trans hw'))).mono ?_⟩
    rintro e w2 ⟨A, c, rfl, ho, hE2⟩
    exact ⟨_, rfl, hE2, k2.noShare (Nat.le_refl _) ho, A, c, rfl, ho.mono (hW.trans hw').size⟩
  obtain ⟨_, _, _, _, A2, c2, rfl, _⟩ := hv
  simp only [Act.put, List.setIfInBounds_toArray, List.set_cons_succ, List.set_cons_zero]
  repeat (apply wpM_one; (case hg => rfl); (case hsp => rfl); (case hv => (intro w' hw'; go_simp; exact rfl)); simp only [Act.put, List.setIfInBounds_toArray, List.set_cons_succ, List.set_cons_zero])
  apply wpM_nil
  apply hN
  intro w' hE' hK
  have k2 := (hK 2).2
  have k5 := (hK 5).2
  simp only [List.drop_succ_cons, List.drop_zero]
  have hlt := (Array.getElem?_eq_some_iff.1 hb2).1
  refine wpList_store_box rfl 51 _ _ rfl (w.heap.size + 1) _ rfl rfl 51 _ ((hW.trans hE').blk hb2) (by kernel_rfl) rfl (by simp [Value.oneCell']) (fun w2 hb hg => ?_)
  have hE2 := ext_only (hE1.trans hE') hg (Nat.le_succ _)
  have o2 := (k2.own.only hg hlt).mono hE.size
  have o5 := (k5.2.own.only hg hlt).mono hE.size
  have n5 := Lib.hid k5.1
  clear hK hN k2 k5 e0 e1 e2 e3
  go_wp2
  exact bodyPost_ret (results_cell_row rfl _ _ _ _ _ _ _ rfl hb Try.underlying51 rfl (by kernel_rfl)) rfl ⟨_, _, _, _, rfl, o2, o5, n5.out, hE2⟩
end Go.Proofs.Ytjjbckdiojleeaa
