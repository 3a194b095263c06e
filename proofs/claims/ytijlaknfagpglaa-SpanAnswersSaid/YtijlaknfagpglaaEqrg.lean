/- The contract of EqRange. No condition but that each list lies in memory as a slice. -/
import Derived.Test.YtijlaknfagpglaaRefa
namespace Go.Proofs.Ytijlaknfagpglaa
open Go.RowKit Go.Proofs
def eqR3 (lo hi : List UInt8) (op : Bool) (mo ji : List UInt8) (oq : Bool) : Bool := op == oq && eqB lo mo && eqB hi ji
set_option maxHeartbeats 1000000 in
theorem eqRange_any {lA hA mA jA : Option Addr} {lc hc mc jc n1 n2 n3 n4 : Nat} {lo hi mo ji : List UInt8} {op oq : Bool} {w : World} (hlo : Sl w lA lc lo) (hhi : Sl w hA hc hi) (hmo : Sl w mA mc mo) (hji : Sl w jA jc ji)
    (e1 : n1 = lo.length) (e2 : n2 = hi.length) (e3 : n3 = mo.length) (e4 : n4 = ji.length) :
    Calls Try.prog 42 #[.agg #[.slice lA n1 lc, .slice hA n2 hc, .bool op], .agg #[.slice mA n3 mc, .slice jA n4 jc, .bool oq]] w fun e w' => e = .returned (.bool (eqR3 lo hi op mo ji oq)) ∧ Ext w w' := by
  subst e1
  subst e2
  subst e3
  subst e4
  have hE0 : Ext w ((w.alloc (.cells #[.slice lA lo.length lc, .slice hA hi.length hc, .bool op] 32 (0, 0))).alloc (.cells #[.slice mA mo.length mc, .slice jA ji.length jc, .bool oq] 32 (0, 0))) := (ext_alloc _ _).trans (ext_alloc _ _)
  have hb1 : (((w.alloc (.cells #[.slice lA lo.length lc, .slice hA hi.length hc, .bool op] 32 (0, 0))).alloc (.cells #[.slice mA mo.length mc, .slice jA ji.length jc, .bool oq] 32 (0, 0))).heap)[w.heap.size]? = some (.cells #[.slice lA lo.length lc, .slice hA hi.length hc, .bool op] 32 (0, 0)) := heap_alloc2_old _ _ _
  have hb2 : (((w.alloc (.cells #[.slice lA lo.length lc, .slice hA hi.length hc, .bool op] 32 (0, 0))).alloc (.cells #[.slice mA mo.length mc, .slice jA ji.length jc, .bool oq] 32 (0, 0))).heap)[w.heap.size + 1]? = some (.cells #[.slice mA mo.length mc, .slice jA ji.length jc, .bool oq] 32 (0, 0)) := heap_alloc2_new _ _ _
  obtain ⟨q, hq⟩ : ∃ q, eqB lo mo = q := ⟨_, rfl⟩
  by_cases ho : op = oq
  · subst ho
    have HR := Lib.hid (show eqR3 lo hi op mo ji op = (q && eqB hi ji) by unfold eqR3; rw [hq]; cases op <;> rfl)
    have HQ := Lib.hid hq
    clear hq
    cases op <;>
    · go_enter Try.func42, Try.ntmps42
      go_wp2_with fail
      refine (eqBytes_any (hlo.ext hE0) (hmo.ext hE0)).mono ?_
      rintro e w1 ⟨rfl, hE1⟩
      have hc1 := hE1.blk hb1
      have hc2 := hE1.blk hb2
      have f1 := cell_of_row w1 w.heap.size 1 _ _ _ hc1
      have g1 := cell_of_row w1 (w.heap.size + 1) 1 _ _ _ hc2
      simp at f1 g1
      rw [HQ.out]
      cases q
      · go_wp2
        go_ret
        exact ⟨ret_bool (by rw [HR.out]; rfl), hE0.trans hE1⟩
      · go_wp2_with fail
        refine (eqBytes_any (hhi.ext (hE0.trans hE1)) (hji.ext (hE0.trans hE1))).mono ?_
        rintro e w2 ⟨rfl, hE2⟩
        go_wp2
        go_ret
        exact ⟨ret_bool (by rw [HR.out]; simp), (hE0.trans hE1).trans hE2⟩
  · have HR := Lib.hid (show eqR3 lo hi op mo ji oq = false by unfold eqR3; cases op <;> cases oq <;> first | rfl | exact absurd rfl ho)
    clear hq
    cases op <;> cases oq <;> first
    | exact absurd rfl ho
    | (clear ho
       go_enter Try.func42, Try.ntmps42
       go_wp2
       go_ret
       exact ⟨ret_bool (by rw [HR.out]), hE0⟩)
end Go.Proofs.Ytijlaknfagpglaa
