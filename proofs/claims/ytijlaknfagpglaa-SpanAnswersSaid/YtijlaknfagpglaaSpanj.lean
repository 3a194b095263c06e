/- The walk of fixed(): the calls whose answers the document prints. No condition. -/
import Derived.Test.YtijlaknfagpglaaSpani
import Derived.Test.YtijlaknfagpglaaEqrg
import Derived.Test.YtijlaknfagpglaaSpang
import Derived.Test.YtijlaknfagpglaaSpanf
import Derived.Lib.SlBytesConst
namespace Go.Proofs.Ytijlaknfagpglaa
open Go.RowKit Go.Proofs
theorem heap_push (w : World) (o : Obj) : (w.alloc o).heap = w.heap.push o := rfl
theorem heap_alloc_new' (w : World) (o : Obj) (g : Nat) (h : g = w.heap.size) : (w.alloc o).heap[g]? = some o := by subst h; exact heap_alloc_new w o
/-- A literal in a block of its own. -/
theorem Sl.lit {w : World} {g : Nat} (bs : List UInt8) (fr : Nat × Nat) (h : w.heap[g]? = some (.cells (cells8 bs).toArray 5 fr)) (hl : bs.length ≤ 64) : Sl w (some ⟨g, 0, none⟩) bs.length bs := by
  refine ⟨fun _ => ⟨g, 0, rfl, fun i hi => ?_⟩, by omega, Nat.le_refl _, by omega⟩
  rw [cell_of_row w g _ _ _ fr h, Nat.zero_add]
  have := cells8_at hi
  simpa using this
set_option maxHeartbeats 4000000 in
theorem fixed_any {w : World} : Calls Try.prog 13 #[] w fun e w' => e = .returned (.bool true) ∧ Ext w w' := by
  have kc : ∀ (w : World) (C : Array Value) (n c g : Nat), g = w.heap.size → (convert 22 22 (.slice (some ⟨g, 0, none⟩) n c)).run Try.prog (w.alloc (.cells C 5 (0, 0))) = .ok (.slice (some ⟨g, 0, none⟩) n c) (w.alloc (.cells C 5 (C.size, C.size + 1))) := fun w C n c g hg => by
    subst hg
    exact Lib.run_convert_bytes_const (P := Try.prog) w 22 5 C n c Try.underlying22 Try.underlying5
  go_enter Try.func13, Try.ntmps13
  go_wp2_with fail
  refine (between_any (xs := [97, 98, 120]) (ys := [97, 100, 121]) ?_ ?_ rfl rfl).mono ?_
  · exact Sl.lit [97, 98, 120] (3, 4) (by simp only [heap_push, Array.getElem?_push, Array.size_push]; (repeat rw [if_neg (by omega)]); rw [if_pos trivial]; rfl) (by decide)
  · exact Sl.lit [97, 100, 121] (3, 4) (by simp only [heap_push, Array.getElem?_push, Array.size_push]; (repeat rw [if_neg (by omega)]); rw [if_pos trivial]; rfl) (by decide)
  rintro e w1 ⟨A1, c1, rfl, ho1, hE1⟩
  have s1 := ho1.sl (by rw [show betwK [97, 98, 120] [97, 100, 121] = [97, 99] from by decide]; decide)
  rw [show betwK [97, 98, 120] [97, 100, 121] = [97, 99] from by decide] at s1 ⊢
  rw [show (betwB [97, 98, 120] [97, 100, 121]).isSome = true from by decide]
  clear ho1
  go_wp2_with fail
  refine (cover2_any (lA := some ⟨w1.heap.size, 0, none⟩) (lc := 1) (hA := some ⟨w1.heap.size + 1, 0, none⟩) (hc := 1) (mA := some ⟨w1.heap.size + 1 + 1, 0, none⟩) (mc := 1) (jA := some ⟨w1.heap.size + 1 + 1 + 1, 0, none⟩) (jc := 1) (lo := [97]) (hi := [99]) (mo := [98]) (ji := [101]) ?_ ?_ ?_ ?_ ?_ ?_ (by decide) (by decide) (by decide) (by decide) (by decide)).mono ?_
  · exact Sl.lit [97] (1, 2) (by simp only [heap_push, Array.getElem?_push, Array.size_push]; (repeat rw [if_neg (by omega)]); rw [if_pos trivial]; rfl) (by decide)
  · exact Sl.lit [99] (1, 2) (by simp only [heap_push, Array.getElem?_push, Array.size_push]; (repeat rw [if_neg (by omega)]); rw [if_pos trivial]; rfl) (by decide)
  · exact Sl.lit [98] (1, 2) (by simp only [heap_push, Array.getElem?_push, Array.size_push]; (repeat rw [if_neg (by omega)]); rw [if_pos trivial]; rfl) (by decide)
  · exact Sl.lit [101] (1, 2) (by simp only [heap_push, Array.getElem?_push, Array.size_push]; (repeat rw [if_neg (by omega)]); rw [if_pos trivial]; rfl) (by decide)
  · exact ⟨by rw [cell_of_row _ _ _ _ _ _ (heap_alloc_new' _ _ _ (by simp))]; rfl, by rw [cell_of_row _ _ _ _ _ _ (heap_alloc_new' _ _ _ (by simp))]; rfl, by rw [cell_of_row _ _ _ _ _ _ (heap_alloc_new' _ _ _ (by simp))]; rfl⟩
  · exact ⟨by rw [cell_of_row _ _ _ _ _ _ (heap_alloc_new' _ _ _ (by simp))]; rfl, by rw [cell_of_row _ _ _ _ _ _ (heap_alloc_new' _ _ _ (by simp))]; rfl, by rw [cell_of_row _ _ _ _ _ _ (heap_alloc_new' _ _ _ (by simp))]; rfl⟩
  rintro e w2 ⟨g2, cap2, A2, c2, B2, d2, rfl, tw, sA, sB, hE2⟩
  have hE3 := hE1.trans (((((ext_alloc w1 _).trans (ext_alloc _ _)).trans (ext_alloc _ _)).trans (ext_alloc _ _)).trans (ext_alloc _ _) |>.trans hE2)
  have s2 := s1.ext ((((((ext_alloc w1 _).trans (ext_alloc _ _)).trans (ext_alloc _ _)).trans (ext_alloc _ _)).trans (ext_alloc _ _)).trans hE2)
  have hE4 := ((ext_alloc w _).trans (ext_alloc _ _)).trans hE3
  clear hE1 hE2 hE3 s1
  have c0 := tw.c0
  have cc1 := tw.c1
  have cc2 := tw.c2
  simp at c0 cc1 cc2
  go_wp2_with fail
  refine (eqb_any (xs := [97, 99]) (ys := [97, 99]) ?_ ?_ rfl rfl).mono ?_
  · exact s2.ext (ext_alloc _ _)
  · exact Sl.lit [97, 99] (2, 3) (by simp only [heap_push, Array.getElem?_push]; (repeat rw [if_neg (by omega)]); rw [if_pos trivial]; rfl) (by decide)
  rintro e w3 ⟨rfl, hE5⟩
  rw [show eqB [97, 99] [97, 99] = true from by decide]
  replace hE5 := (ext_alloc w2 _).trans hE5
  have d0 := hE5.cell c0
  have dd1 := hE5.cell cc1
  have dd2 := hE5.cell cc2
  have x0 := sA.ext hE5
  have x1 := sB.ext hE5
  have hE6 := hE4.trans hE5
  clear c0 cc1 cc2 sA sB tw s2 hE4 hE5
  go_wp2_with fail
  refine (eqRange_any (lo := [97]) (hi := [101]) (mo := [97]) (ji := [101]) ?_ ?_ ?_ ?_ rfl rfl rfl rfl).mono ?_
  · exact x0.ext ((ext_alloc _ _).trans (ext_alloc _ _))
  · exact x1.ext ((ext_alloc _ _).trans (ext_alloc _ _))
  · exact Sl.lit [97] (1, 2) (by simp only [heap_push, Array.getElem?_push, Array.size_push]; (repeat rw [if_neg (by omega)]); rw [if_pos trivial]; rfl) (by decide)
  · exact Sl.lit [101] (1, 2) (by simp only [heap_push, Array.getElem?_push, Array.size_push]; (repeat rw [if_neg (by omega)]); rw [if_pos trivial]; rfl) (by decide)
  rintro e w4 ⟨rfl, hE7⟩
  rw [show eqR3 [97] [101] false [97] [101] false = true from by decide]
  replace hE7 := hE6.trans (((ext_alloc w3 _).trans (ext_alloc _ _)).trans hE7)
  clear hE6 d0 dd1 dd2 x0 x1
  go_wp2_with fail
  refine (scmp_any (xs := [98]) (ys := [97]) ?_ ?_ rfl rfl).mono ?_
  · exact Sl.lit [98] (1, 2) (by simp only [heap_push, Array.getElem?_push, Array.size_push]; (repeat rw [if_neg (by omega)]); rw [if_pos trivial]; rfl) (by decide)
  · exact Sl.lit [97] (1, 2) (by simp only [heap_push, Array.getElem?_push, Array.size_push]; (repeat rw [if_neg (by omega)]); rw [if_pos trivial]; rfl) (by decide)
  rintro e w5 ⟨rfl, hE8⟩
  rw [show cmpB [98] [97] = 1 from by decide]
  replace hE8 := hE7.trans (((ext_alloc w4 _).trans (ext_alloc _ _)).trans hE8)
  clear hE7
  go_wp2_with fail
  refine (next_any (bs := [97]) ?_ rfl).mono ?_
  · exact Sl.lit [97] (1, 2) (by simp only [heap_push, Array.getElem?_push]; (repeat rw [if_neg (by omega)]); rw [if_pos trivial]; rfl) (by decide)
  rintro e w6 ⟨A6, c6, rfl, ho6, hE9⟩
  have s6 := ho6.sl (by rw [show nextB [97] = [97, 0] from by decide]; decide)
  rw [show nextB [97] = [97, 0] from by decide] at s6 ⊢
  replace hE9 := hE8.trans ((ext_alloc w5 _).trans hE9)
  clear hE8 ho6
  go_wp2_with fail
  refine (eqb_any (xs := [97, 0]) (ys := [97, 0]) ?_ ?_ rfl rfl).mono ?_
  · exact s6.ext (ext_alloc _ _)
  · exact Sl.lit [97, 0] (0, 0) (by simp only [heap_push, Array.getElem?_push]; (repeat rw [if_neg (by omega)]); rw [if_pos trivial]; rfl) (by decide)
  rintro e w7 ⟨rfl, hE10⟩
  rw [show eqB [97, 0] [97, 0] = true from by decide]
  replace hE10 := hE9.trans ((ext_alloc w6 _).trans hE10)
  clear hE9 s6
  go_wp2_with fail
  refine (has_any (lo := [97]) (hi := []) (k := [98]) ?_ ⟨Rd.nil _ _, by decide, by decide, by decide⟩ ?_ rfl).mono ?_
  · exact Sl.lit [97] (1, 2) (by simp only [heap_push, Array.getElem?_push, Array.size_push]; (repeat rw [if_neg (by omega)]); rw [if_pos trivial]; rfl) (by decide)
  · exact Sl.lit [98] (1, 2) (by simp only [heap_push, Array.getElem?_push, Array.size_push]; (repeat rw [if_neg (by omega)]); rw [if_pos trivial]; rfl) (by decide)
  rintro e w8 ⟨rfl, hE11⟩
  rw [show hasB ⟨[97], [], true⟩ [98] = true from by decide]
  replace hE11 := hE10.trans (((ext_alloc w7 _).trans (ext_alloc _ _)).trans hE11)
  clear hE10
  go_wp2_with fail
  refine (has_any (lo := [99]) (hi := []) (k := [98]) ?_ ⟨Rd.nil _ _, by decide, by decide, by decide⟩ ?_ rfl).mono ?_
  · exact Sl.lit [99] (1, 2) (by simp only [heap_push, Array.getElem?_push, Array.size_push]; (repeat rw [if_neg (by omega)]); rw [if_pos trivial]; rfl) (by decide)
  · exact Sl.lit [98] (1, 2) (by simp only [heap_push, Array.getElem?_push, Array.size_push]; (repeat rw [if_neg (by omega)]); rw [if_pos trivial]; rfl) (by decide)
  rintro e w9 ⟨rfl, hE12⟩
  rw [show hasB ⟨[99], [], true⟩ [98] = false from by decide]
  replace hE12 := hE11.trans (((ext_alloc w8 _).trans (ext_alloc _ _)).trans hE12)
  clear hE11
  go_wp2
  go_ret
  exact ⟨rfl, hE12⟩
end Go.Proofs.Ytijlaknfagpglaa
