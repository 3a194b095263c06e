/- The walk of TupleDecodes. No condition but that what comes in lies in memory. -/
import Derived.Test.YtbjfgnkjmfcokaaTworks
import Derived.Test.YtbjfgnkjmfcokaaSpare
namespace Go.Proofs.Ytbjfgnkjmfcokaa
set_option linter.unusedVariables false
open Go.RowKit Go.Proofs
set_option maxRecDepth 100000 in
set_option maxHeartbeats 1000000 in
theorem decodes_any {A : Option Addr} {c : Nat} {b : List UInt8} {w : World} (h : Sl w A c b) :
    Calls Try.prog 7 #[.slice A b.length c] w fun e w' => e = .returned (.bool true) ∧ Ext w w' := by
  have hl := h.len
  have HT1 := fun w => @dDecode_any w A c b
  have HT2 := fun w B d => @tDecode_any w B d b
  have hol := decO_len b
  have hok : ∀ v ∈ decO b, v.Ok := fun v hv => (decO_mem hv).2
  generalize decO b = o at *
  generalize decE b = en at *
  have HO := Lib.hid hok
  clear hok
  go_enter Try.func7, Try.ntmps7
  go_wp2_with fail
  refine (HT1 _ h).mono ?_
  rintro e w1 ⟨A1, c1, rfl, ho1, hE1⟩
  go_wp2_with fail
  refine (spare_any (h.ext hE1)).mono ?_
  rintro e w2 ⟨g, rfl, hg, hsp, hE2⟩
  clear hg
  go_wp2_with fail
  refine (HT2 _ _ _ (hsp.sl hl)).mono ?_
  rintro e w3 ⟨A3, c3, rfl, ho3, hE3⟩
  have d1 := (ho1.vl len_dc (by omega) HO.out).ext (hE2.trans hE3)
  have p3 := ho3.vl len_pc (by omega) HO.out
  replace hsp := Blk.ext hsp hE3
  have hE := (hE1.trans hE2).trans hE3
  clear ho1 ho3 hE1 hE2 hE3 HT1 HT2
  have HT := like_any p3 d1
  rw [decide_eq_true rfl] at HT
  go_wp2_with fail
  refine HT.mono ?_
  rintro e w4 ⟨rfl, hE4⟩
  clear HT
  go_wp2_with fail
  refine (kept_any (Blk.ext hsp hE4) (h.ext (hE.trans hE4))).mono ?_
  rintro e w5 ⟨rfl, hE5⟩
  go_wp2_with fail
  refine works_any.mono ?_
  rintro e w6 ⟨rfl, hE6⟩
  go_wp2
  go_ret
  exact ⟨rfl, ((hE.trans hE4).trans hE5).trans hE6⟩
end Go.Proofs.Ytbjfgnkjmfcokaa
