/- The walk of TupleOneForm. No condition but that what comes in lies in memory. -/
import Derived.Test.YtbjfgnkjmfcokaaTworks
import Derived.Test.YtbjfgnkjmfcokaaTlaw
namespace Go.Proofs.Ytbjfgnkjmfcokaa
set_option linter.unusedVariables false
open Go.RowKit Go.Proofs
theorem decO_enc {b : List UInt8} (h : decE b = 0) : encO (decO b) = b ∧ encE (decO b) = 0 := by
  unfold decE at h
  split at h
  · cases h
  · rename_i hb
    obtain ⟨k1, k2⟩ := dec_enc b.length b (Nat.le_refl _) h
    have e : decO b = (decL b).1 := by unfold decO; rw [if_neg hb]
    rw [e]
    obtain ⟨h1, h2⟩ := encE_fine k2 (by rw [k1]; omega)
    exact ⟨by rw [h2, k1], h1⟩
theorem decO_none {b : List UInt8} (h : decE b ≠ 0) : decO b = [] := by
  unfold decE at h
  unfold decO
  split
  · rfl
  · rename_i hb
    rw [if_neg hb] at h
    exact decL_err h
set_option maxRecDepth 100000 in
set_option maxHeartbeats 1000000 in
theorem oneform_any {A : Option Addr} {c : Nat} {b : List UInt8} {w : World} (h : Sl w A c b) :
    Calls Try.prog 9 #[.slice A b.length c] w fun e w' => e = .returned (.bool true) ∧ Ext w w' := by
  have hl := h.len
  have HT1 := fun w B d => @tDecode_any w B d b
  have hol := decO_len b
  have hok : ∀ v ∈ decO b, v.Ok := fun v hv => (decO_mem hv).2
  have htx : ∀ v ∈ decO b, v.text.length ≤ 1099511627776 := fun v hv => by have := (decO_mem hv).1; omega
  have hfine := @decO_enc b
  have hnone := @decO_none b
  have HT2 := fun w B d => @tEncode_any w B d (decO b)
  generalize decO b = o at *
  generalize decE b = en at *
  have HO := Lib.hid hok
  have HTX := Lib.hid htx
  have HF := Lib.hid hfine
  have HN := Lib.hid hnone
  clear hok htx hfine hnone
  go_enter Try.func9, Try.ntmps9
  go_wp2_with fail
  refine works_any.mono ?_
  rintro e w0 ⟨rfl, hE0⟩
  go_wp2_with fail
  refine (copyBytes_any (h.ext hE0)).mono ?_
  rintro e w1 ⟨A1, c1, rfl, ho1, hE1⟩
  go_wp2_with fail
  refine (HT1 _ _ _ (ho1.sl hl)).mono ?_
  rintro e w2 ⟨A2, c2, rfl, ho2, hE2⟩
  have hE := (hE0.trans hE1).trans hE2
  have p2 := ho2.vl len_pc (by omega) HO.out
  clear HT1 ho1 ho2 hE0 hE1 hE2
  by_cases he : en = 0
  · subst he
    obtain ⟨k1, k2⟩ := HF.out rfl
    have HT := HT2 w2 A2 c2 p2 HTX.out
    rw [k1, k2] at HT
    clear HT2 HN HF k1 k2
    go_wp2_with fail
    refine HT.mono ?_
    rintro e w3 ⟨A3, c3, rfl, ho3, hE3⟩
    have HQ := eqBytes_any (h.ext (hE.trans hE3)) (ho3.sl hl)
    rw [eqB_self] at HQ
    clear HT p2
    go_wp2_with fail
    refine HQ.mono ?_
    rintro e w4 ⟨rfl, hE4⟩
    go_wp2
    go_ret
    exact ⟨rfl, (hE.trans hE3).trans hE4⟩
  · have h0 : o.length = 0 := by rw [HN.out he]; rfl
    have he2 : (en != 0) = true := by simpa using he
    clear HT2 HF HN
    go_wp2
    go_ret
    exact ⟨rfl, hE⟩
end Go.Proofs.Ytbjfgnkjmfcokaa
