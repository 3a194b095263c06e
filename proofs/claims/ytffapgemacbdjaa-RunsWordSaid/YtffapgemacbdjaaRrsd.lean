/- Layer 5, at uint16: the law's first steps: the script is cut to 300 calls. No condition. -/
import Derived.Test.YtffapgemacbdjaaRpld
namespace Go.Proofs.Ytffapgemacbdjaa
open Go.RowKit Go.Proofs Go.Shelf
set_option linter.unusedVariables false
theorem OPL.take {w : World} {A : Option Addr} {c : Nat} {os : List Opn} (h : OPL w A c os) (k : Nat) : OPL w A c (os.take k) := by
  refine ⟨fun hn => ?_, ?_, h.cap, fun o ho => h.ok o (List.mem_of_mem_take ho)⟩
  · obtain ⟨b, off, hA, hc⟩ := h.rd (by rw [List.length_take] at hn; omega)
    refine ⟨b, off, hA, fun i o ho => hc i o ?_⟩
    rw [List.getElem?_take] at ho
    split at ho
    · exact ho
    · cases ho
  · rw [List.length_take]
    have := h.le
    omega
set_option maxHeartbeats 2000000 in
theorem runs_lawd {A : Option Addr} {c : Nat} {os : List Opn} {w : World} (hx0 : OPL w A c os) :
    Calls Try.prog 9 #[.slice A os.length c] w fun e w' => e = .returned (.bool true) ∧ Ext w w' := by
  obtain ⟨n, hn⟩ : ∃ n, min os.length 300 = n := ⟨_, rfl⟩
  have hx := hx0.take n
  have hln : (os.take n).length = n := by rw [List.length_take]; omega
  have hmn : (if (300 : Int) < (os.length : Int) then 300 else (os.length : Int)) = (n : Int) := by split <;> omega
  have hnl : n ≤ os.length := by omega
  have hn2 : n ≤ 300 := by omega
  have hlc := hx0.le
  have hcap := hx0.cap
  have hnc : n ≤ c := by omega
  clear hn
  have HP := play_anyd hx (by omega)
  rw [hln] at HP
  clear hln hx
  go_enter Try.func9, Try.ntmps9
  go_wp2_with fail
  refine HP.mono ?_
  rintro e w2 ⟨rfl, hE⟩
  go_wp2
  go_ret
  exact ⟨rfl, hE⟩
end Go.Proofs.Ytffapgemacbdjaa
