/- The walk of TupleEncodes. No condition but that what comes in lies in memory and that its texts are no longer than 2^40. -/
import Derived.Test.YtbjfgnkjmfcokaaTworks
namespace Go.Proofs.Ytbjfgnkjmfcokaa
set_option linter.unusedVariables false
open Go.RowKit Go.Proofs
set_option maxRecDepth 100000 in
set_option maxHeartbeats 1000000 in
theorem encodes_any {A : Option Addr} {c : Nat} {x : List Vl} {w : World} (hx : DL w A c x) (gx : x.length + 2 ≤ 2199023255552) (tx : ∀ v ∈ x, v.text.length ≤ 1099511627776) :
    Calls Try.prog 6 #[.slice A x.length c] w fun e w' => e = .returned (.bool true) ∧ Ext w w' := by
  have hlo := length_encO x
  have HT1 := fun w => @dEncode_any w A c x
  have HT2 := fun w B d => @tEncode_any w B d x
  generalize encE x = en at HT1 HT2
  generalize encO x = lo at hlo HT1 HT2
  go_enter Try.func6, Try.ntmps6
  go_wp2_with fail
  refine (HT1 _ hx tx).mono ?_
  rintro e w1 ⟨A1, c1, rfl, ho1, hE1⟩
  clear HT1
  go_wp2_with fail
  refine (list_any (hx.ext hE1)).mono ?_
  rintro e w2 ⟨g, rfl, hg, hbg, hE2⟩
  clear hg
  have px := hbg.list gx hx.ok
  go_wp2_with fail
  refine (HT2 _ _ _ px tx).mono ?_
  rintro e w3 ⟨A3, c3, rfl, ho3, hE3⟩
  have s1 := ((ho1.ext hE2).ext hE3).sl (by omega)
  have s3 := ho3.sl (by omega)
  replace hbg := hbg.ext hE3
  have hE := (hE1.trans hE2).trans hE3
  clear HT2 px ho1 ho3 hE1 hE2 hE3
  have HT := eqBytes_any s3 s1
  rw [eqB_self] at HT
  go_wp2_with fail
  refine HT.mono ?_
  rintro e w4 ⟨rfl, hE4⟩
  clear HT
  go_wp2_with fail
  refine (kept_list (hbg.ext hE4) (hx.ext (hE.trans hE4)) gx).mono ?_
  rintro e w5 ⟨rfl, hE5⟩
  go_wp2_with fail
  refine works_any.mono ?_
  rintro e w6 ⟨rfl, hE6⟩
  go_wp2
  go_ret
  exact ⟨rfl, ((hE.trans hE4).trans hE5).trans hE6⟩
end Go.Proofs.Ytbjfgnkjmfcokaa
