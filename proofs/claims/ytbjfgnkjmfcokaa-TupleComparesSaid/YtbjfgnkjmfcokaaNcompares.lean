/- The walk of TupleCompares. No condition but that what comes in lies in memory. -/
import Derived.Test.YtbjfgnkjmfcokaaTcmpl
namespace Go.Proofs.Ytbjfgnkjmfcokaa
set_option linter.unusedVariables false
open Go.RowKit Go.Proofs
theorem cmpV_self (v : Vl) : cmpV v v = 0 := by
  have h : ∀ a : Int, cmpI a a = 0 := fun a => cmpI_eq.2 rfl
  unfold cmpV
  rw [if_pos rfl]
  simp only [h, cmpB_self, if_true, ite_self]
theorem cmpL_self : ∀ l : List Vl, cmpL l l = 0
  | [] => rfl
  | v :: l => by rw [cmpL, if_pos (cmpV_self v), cmpL_self l]
set_option maxRecDepth 20000 in
set_option maxHeartbeats 1000000 in
theorem compares_any {A B : Option Addr} {c d : Nat} {x y : List Vl} {w : World} (hx : DL w A c x) (gx : x.length + 2 ≤ 2199023255552) (hy : DL w B d y) (gy : y.length + 2 ≤ 2199023255552) :
    Calls Try.prog 4 #[.slice A x.length c, .slice B y.length d] w fun e w' => e = .returned (.bool true) ∧ Ext w w' := by
  have hs := cmpL_self x
  go_enter Try.func4, Try.ntmps4
  go_wp2_with fail
  refine (list_any hx).mono ?_
  rintro e w1 ⟨g, rfl, hg, hbg, hE⟩
  clear hg
  go_wp2_with fail
  refine (list_any (hy.ext hE)).mono ?_
  rintro e w2 ⟨g2, rfl, hg, hbg2, hE2⟩
  clear hg
  replace hbg := hbg.ext hE2
  replace hE := hE.trans hE2
  clear hE2
  have px := hbg.list gx hx.ok
  have py := hbg2.list gy hy.ok
  go_wp2_with fail
  refine (tCompare_any px py).mono ?_
  rintro e w3 ⟨rfl, hE3⟩
  go_wp2_with fail
  refine (dCompare_any (hx.ext (hE.trans hE3)) (hy.ext (hE.trans hE3))).mono ?_
  rintro e w4 ⟨rfl, hE4⟩
  replace hE3 := hE3.trans hE4
  clear hE4
  go_wp2_with fail
  refine (tCompare_any (py.ext hE3) (px.ext hE3)).mono ?_
  rintro e w4 ⟨rfl, hE4⟩
  replace hE3 := hE3.trans hE4
  clear hE4
  go_wp2_with fail
  refine (dCompare_any (hy.ext (hE.trans hE3)) (hx.ext (hE.trans hE3))).mono ?_
  rintro e w4 ⟨rfl, hE4⟩
  replace hE3 := hE3.trans hE4
  clear hE4
  go_wp2_with fail
  refine (tCompare_any (px.ext hE3) (px.ext hE3)).mono ?_
  rintro e w4 ⟨rfl, hE4⟩
  rw [hs]
  replace hE3 := hE3.trans hE4
  clear hE4
  go_wp2_with fail
  refine (kept_list (hbg.ext hE3) (hx.ext (hE.trans hE3)) gx).mono ?_
  rintro e w4 ⟨rfl, hE4⟩
  replace hE3 := hE3.trans hE4
  clear hE4
  go_wp2_with fail
  refine (kept_list (hbg2.ext hE3) (hy.ext (hE.trans hE3)) gy).mono ?_
  rintro e w4 ⟨rfl, hE4⟩
  replace hE3 := hE3.trans hE4
  clear hE4
  go_wp2
  go_ret
  exact ⟨rfl, hE.trans hE3⟩
end Go.Proofs.Ytbjfgnkjmfcokaa
