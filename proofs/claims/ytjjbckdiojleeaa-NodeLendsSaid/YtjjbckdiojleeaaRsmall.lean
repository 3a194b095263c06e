/- Contracts of coppiceref12.meant, lends. No condition. -/
import Derived.Test.YtjjbckdiojleeaaRput
import Derived.Test.YtjjbckdiojleeaaNjoin
namespace Go.Proofs.Ytjjbckdiojleeaa
set_option linter.unusedVariables false
open Go.RowKit Go.Proofs
theorem rmeant_any {k : Int} {w : World} :
    Calls Try.prog 57 #[.int .i64 k] w fun e w' => e = .returned (.bool (meantB k)) ∧ Ext w w' := by
  have HQ := Lib.hid (show meantB k = (k == 1 || k == 2) from rfl)
  obtain ⟨z, hz⟩ : ∃ z, (k == 1) = z := ⟨_, rfl⟩
  have HZ := Lib.hid hz
  cases z
  all_goals
    go_enter Try.func57, Try.ntmps57
    go_wp2
    go_ret
    exact ⟨ret_bool (by rw [HQ.out, HZ.out]; rfl), Below.refl _ _⟩
def lendsB (n m : Int) : Bool := decide (2 ≤ n) && (decide (1 ≤ m) && decide (m < 8))
theorem rlends_any {n m : Int} {w : World} :
    Calls Try.prog 70 #[.int .i64 n, .int .i64 m] w fun e w' => e = .returned (.bool (lendsB n m)) ∧ Ext w w' := by
  have HQ := Lib.hid (show lendsB n m = (decide (2 ≤ n) && (decide (1 ≤ m) && decide (m < 8))) from rfl)
  by_cases h1 : 2 ≤ n
  · by_cases h2 : 1 ≤ m
    · by_cases h3 : m < 8
      all_goals
        have H1 := Lib.hid h1
        have H2 := Lib.hid h2
        have H3 := Lib.hid h3
        go_enter Try.func70, Try.ntmps70
        go_wp2
        go_ret
        exact ⟨ret_bool (by rw [HQ.out]; simp [H1.out, H2.out, H3.out]), Below.refl _ _⟩
    · have H1 := Lib.hid h1
      have H2 := Lib.hid h2
      have h2' : m < 1 := by omega
      clear h2
      go_enter Try.func70, Try.ntmps70
      go_wp2
      go_ret
      exact ⟨ret_bool (by rw [HQ.out]; have h5 := H2.out; simp; omega), Below.refl _ _⟩
  · have H1 := Lib.hid h1
    have h1' : n < 2 := by omega
    clear h1
    go_enter Try.func70, Try.ntmps70
    go_wp2
    go_ret
    exact ⟨ret_bool (by rw [HQ.out]; have h5 := H1.out; simp; omega), Below.refl _ _⟩
theorem setCell_exc_t {w : World} {g i : Nat} {v : Value} {t : TypeId} {cs : Array Value} (h : w.heap[g]? = some (.cells cs t (0, 0))) : Exc (fun q o => q = g ∧ ∃ cs, o = .cells cs t (0, 0)) w (w.setCell ⟨g, i, none⟩ v) := by
  have hx := setCell_exc w g i v
  refine ⟨hx.os, hx.tape, hx.output, hx.size, fun k o hk hn => hx.block k o hk (fun e => hn ⟨e, ?_⟩)⟩
  subst e
  rw [h] at hk
  injection hk with hk
  exact ⟨cs, hk.symm⟩
/-- An item with another key, in new memory. -/
theorem rkeyed_any {v : Value} {x : It} {A : Option Addr} {c n : Nat} {k : List UInt8} {w : World} (hv : ItV w v x) (hk : Sl w A c k) (hn : n = k.length) :
    Calls Try.prog 63 #[v, .slice A n c] w fun e w' => ∃ kA kc vA vc, e = .returned (.agg #[.slice kA k.length kc, .slice vA x.val.length vc, .int .i64 x.ch, .int .i64 x.sz]) ∧ Own 5 w.heap.size w' kA kc k ∧ Own 5 w.heap.size w' vA vc x.val ∧ NoShare (.slice kA k.length kc) (.slice vA x.val.length vc) ∧ Ext w w' := by
  subst hn
  obtain ⟨xA, xc, yA, yc, rfl, h1, h2⟩ := hv.ex
  go_enter Try.func63, Try.ntmps63
  have hE0 := (ext_alloc w (.cells #[.slice xA x.key.length xc, .slice yA x.val.length yc, .int .i64 x.ch, .int .i64 x.sz] 51)).trans (ext_alloc _ (.cells #[.slice none 0 0, .slice none 0 0, .int .i64 0, .int .i64 0] 51))
  have hb0 := heap_alloc2_new w (.cells #[.slice xA x.key.length xc, .slice yA x.val.length yc, .int .i64 x.ch, .int .i64 x.sz] 51) (.cells #[.slice none 0 0, .slice none 0 0, .int .i64 0, .int .i64 0] 51)
  go_wp2_with fail
  refine (copyItem_any (h1.ext hE0) (h2.ext hE0)).mono ?_
  rintro e w1 ⟨kA', kc', vA', vc', rfl, o1, o2, _, hE1⟩
  have hE01 := hE0.trans hE1
  have hb1 := hE1.blk hb0
  have o2' := (o2.mono (B' := w.heap.size + 2) (by simp)).ext (ext_alloc w1 (.cells #[.slice kA' x.key.length kc', .slice vA' x.val.length vc', .int .i64 x.ch, .int .i64 x.sz] 51))
  have hz1 := (ext_alloc w1 (.cells #[.slice kA' x.key.length kc', .slice vA' x.val.length vc', .int .i64 x.ch, .int .i64 x.sz] 51)).blk hb1
  have hd1 := heap_alloc_new w1 (.cells #[.slice kA' x.key.length kc', .slice vA' x.val.length vc', .int .i64 x.ch, .int .i64 x.sz] 51)
  have hE2 := hE01.trans (ext_alloc w1 (.cells #[.slice kA' x.key.length kc', .slice vA' x.val.length vc', .int .i64 x.ch, .int .i64 x.sz] 51))
  have hs0 := (Array.getElem?_eq_some_iff.1 hb1).1
  clear o1 o2 hE0 hE1 hb0 hE01 hb1
  go_wp2_with fail
  refine (copyBytes_any (hk.ext hE2)).mono ?_
  rintro e w2 ⟨A2, c2, rfl, ok, hE3⟩
  have hd2 := hE3.blk hd1
  have hz2 := hE3.blk hz1
  have ov := o2'.ext hE3
  have hE4 := hE2.trans hE3
  have hns := (noShare_of o2' (Nat.le_refl _) ok).symm
  obtain ⟨b5, hb5⟩ : ∃ b, w1.heap.size = b := ⟨_, rfl⟩
  have hsz2 : b5 + 1 ≤ (w1.alloc (.cells #[.slice kA' x.key.length kc', .slice vA' x.val.length vc', .int .i64 x.ch, .int .i64 x.sz] 51)).heap.size := by simp; omega
  rw [hb5] at hd2 ⊢
  have d0 := cell_of_row w2 b5 0 _ _ _ hd2
  have d1 := cell_of_row w2 b5 1 _ _ _ hd2
  have d2 := cell_of_row w2 b5 2 _ _ _ hd2
  have d3 := cell_of_row w2 b5 3 _ _ _ hd2
  have f0 := frozen_of_row w2 b5 0 _ _ hd2
  simp at d0 d1 d2 d3
  have hd3 := heap_setCell_same w2 b5 0 _ _ (.slice A2 k.length c2) hd2
  have hx3 := setCell_exc_t (i := 0) (v := .slice A2 k.length c2) hd2
  have hz3 := hx3.blk hz2 (fun h => by have := h.1; omega)
  have hno : ∀ (B q : Nat) (cs : Array Value), B ≤ q → ¬ (q = b5 ∧ ∃ cs', Obj.cells cs 5 (0, 0) = .cells cs' 51 (0, 0)) := fun B q cs _ ⟨_, _, e⟩ => by injection e with _ e; exact absurd e (by decide)
  have ov3 := ownsRow_exc ov hx3 (hno _)
  have ok3 := ownsRow_exc ok hx3 (hno _)
  have hE5 := hx3.to_ext hE4 (fun q _ h => by have := h.1; omega)
  have hE6 := hE5
  simp only [List.setIfInBounds_toArray, List.set_cons_zero] at hd3
  have g0 := cell_of_row _ b5 0 _ _ _ hd3
  have g1 := cell_of_row _ b5 1 _ _ _ hd3
  have g2 := cell_of_row _ b5 2 _ _ _ hd3
  have g3 := cell_of_row _ b5 3 _ _ _ hd3
  simp at g0 g1 g2 g3
  have HNS := Lib.hid hns
  have HNO := Lib.hid hno
  clear hd1 hz1 hd2 hz2 hE2 hE3 hE4 hx3 hd3 hns hno ok ov o2' d1 d2 d3 hE5
  go_wp2_with (refine wpList_store_box rfl 51 _ _ rfl (w.heap.size + 1) _ rfl rfl 51 _ hz3 (by kernel_rfl) rfl (by simp [Value.oneCell']) (fun w4 hb hg => ?_))
  have hx4 := Exc.of_only (D := fun q _ => q = w.heap.size + 1) hg (fun _ _ => rfl)
  exact bodyPost_ret (results_cell_row rfl _ _ _ _ _ _ _ rfl hb Try.underlying51 rfl (by kernel_rfl)) rfl ⟨A2, c2, vA', vc', rfl, Own.mono (ownsRow_exc ok3 hx4 (fun q cs h1 h2 => by omega)) (by omega), Own.mono (ownsRow_exc ov3 hx4 (fun q cs h1 h2 => by omega)) (by omega), HNS.out, hx4.to_ext hE6 (fun q _ h => by omega)⟩
end Go.Proofs.Ytjjbckdiojleeaa
