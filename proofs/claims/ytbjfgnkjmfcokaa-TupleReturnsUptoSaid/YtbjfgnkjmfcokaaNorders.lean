/- The walk of TupleOrders. No condition but that what comes in lies in memory and that its texts are no longer than 2^40. -/
import Derived.Test.YtbjfgnkjmfcokaaTworks
import Derived.Test.YtbjfgnkjmfcokaaTord
namespace Go.Proofs.Ytbjfgnkjmfcokaa
set_option linter.unusedVariables false
open Go.RowKit Go.Proofs
theorem encE_zero {l : List Vl} (h : encE l = 0) : l.all validV = true ∧ encO l = encB l := by
  refine ⟨?_, by unfold encO; rw [if_pos h]⟩
  unfold encE at h
  split at h
  · assumption
  · cases h
set_option maxRecDepth 100000 in
set_option maxHeartbeats 1000000 in
theorem orders_any {A B : Option Addr} {c d : Nat} {x y : List Vl} {w : World} (hx : DL w A c x) (gx : x.length + 2 ≤ 2199023255552) (tx : ∀ v ∈ x, v.text.length ≤ 1099511627776) (hy : DL w B d y) (gy : y.length + 2 ≤ 2199023255552) (ty : ∀ v ∈ y, v.text.length ≤ 1099511627776) :
    Calls Try.prog 13 #[.slice A x.length c, .slice B y.length d] w fun e w' => e = .returned (.bool true) ∧ Ext w w' := by
  have hlx := length_encO x
  have hly := length_encO y
  have HT1 := fun w B d => @tEncode_any w B d x
  have HT2 := fun w B d => @tEncode_any w B d y
  have hnx := @encO_none x
  have hny := @encO_none y
  have hxy : encE x = 0 → encE y = 0 → cmpB (encO x) (encO y) = cmpL x y := fun h1 h2 => by
    obtain ⟨a1, a2⟩ := encE_zero h1
    obtain ⟨b1, b2⟩ := encE_zero h2
    rw [a2, b2]
    exact enc_cmp x y a1 b1 hx.ok hy.ok
  generalize encE x = en at *
  generalize encO x = lo at *
  generalize encE y = em at *
  generalize encO y = lp at *
  have HNX := Lib.hid hnx
  have HNY := Lib.hid hny
  have HXY := Lib.hid hxy
  clear hnx hny hxy
  go_enter Try.func13, Try.ntmps13
  go_wp2_with fail
  refine works_any.mono ?_
  rintro e w0 ⟨rfl, hE0⟩
  go_wp2_with fail
  refine (list_any (hx.ext hE0)).mono ?_
  rintro e w1 ⟨g, rfl, hg, hbg, hE1⟩
  clear hg
  go_wp2_with fail
  refine (HT1 _ _ _ (hbg.list gx hx.ok) tx).mono ?_
  rintro e w2 ⟨A2, c2, rfl, ho2, hE2⟩
  have hE := (hE0.trans hE1).trans hE2
  clear HT1 hbg hE0 hE1 hE2
  go_wp2_with fail
  refine (list_any (hy.ext hE)).mono ?_
  rintro e w3 ⟨g3, rfl, hg, hbg, hE3⟩
  clear hg
  go_wp2_with fail
  refine (HT2 _ _ _ (hbg.list gy hy.ok) ty).mono ?_
  rintro e w4 ⟨A4, c4, rfl, ho4, hE4⟩
  have s2 := ((ho2.ext hE3).ext hE4).sl (by omega)
  have s4 := ho4.sl (by omega)
  replace hE := (hE.trans hE3).trans hE4
  clear HT2 hbg hE3 hE4 ho2 ho4
  by_cases he : en = 0
  · subst he
    by_cases hf : em = 0
    · subst hf
      have HC := Lib.hid (HXY.out rfl rfl)
      clear HXY HNX HNY
      go_wp2_with fail
      refine (compare_any s2 s4).mono ?_
      rw [HC.out]
      rintro e w5 ⟨rfl, hE5⟩
      replace hE := hE.trans hE5
      clear s2 s4 hE5
      go_wp2_with fail
      refine (list_any (hx.ext hE)).mono ?_
      rintro e w6 ⟨g6, rfl, hg, hb6, hE6⟩
      clear hg
      replace hE := hE.trans hE6
      go_wp2_with fail
      refine (list_any (hy.ext hE)).mono ?_
      rintro e w7 ⟨g7, rfl, hg, hb7, hE7⟩
      clear hg
      replace hE := hE.trans hE7
      have p6 := (hb6.ext hE7).list gx hx.ok
      have p7 := hb7.list gy hy.ok
      go_wp2_with fail
      refine (tCompare_any p6 p7).mono ?_
      rintro e w8 ⟨rfl, hE8⟩
      go_wp2
      go_ret
      exact ⟨rfl, hE.trans hE8⟩
    · have h0 : lp.length = 0 := by rw [HNY.out hf]; rfl
      have he2 : (em != 0) = true := by simpa using hf
      clear HXY HNX HNY
      go_wp2
      all_goals go_ret
      all_goals exact ⟨by first | rfl | simp, hE⟩
  · have h0 : lo.length = 0 := by rw [HNX.out he]; rfl
    have he2 : (en != 0) = true := by simpa using he
    clear HXY HNX HNY
    go_wp2
    all_goals go_ret
    all_goals exact ⟨by first | rfl | simp, hE⟩
end Go.Proofs.Ytbjfgnkjmfcokaa
