/- Arguments of type []byte opened: what a row's reading of a slice says of memory. No condition. -/
import Derived.Test.YtaalhicdeibodaaWords
import Derived.Test.YtaalhicdeibodaaChecked
import Derived.OpenShut
import Derived.ChangeOld
import Derived.SizedLaws
import Derived.ProofKit
namespace Go.Proofs.Ytaalhicdeibodaa
open Go.ChangeShapes Go.WideShapes Go.ChangeAt Go.RowKit
theorem own' : ownKnob Try.prog.godebug = none := by kernel_rfl
theorem laidOut' : laidOutB Try.prog = true := by kernel_rfl
theorem bytesU8 : Try.prog.bytesOf 5 = 1 := by kernel_rfl
def toB (zs : List Int) : List UInt8 := zs.map fun n => UInt8.ofNat n.toNat
theorem at8_toB {zs : List Int} {i : Nat} (hw : ∀ n ∈ zs, (Lit.int .u8 n).wf = true) (hi : i < zs.length) : at8 (toB zs) i = zs.getD i 0 := by
  have hm := hw zs[i] (List.getElem_mem hi)
  have hb : 0 ≤ zs[i] ∧ zs[i] ≤ 255 := by
    simp [Lit.wf] at hm
    have e1 : IntKind.u8.min = 0 := by decide
    have e2 : IntKind.u8.max = 255 := by decide
    omega
  unfold at8 toB
  simp only [List.getD_eq_getElem?_getD, List.getElem?_map, List.getElem?_eq_getElem hi, Option.map_some, Option.getD_some]
  rw [UInt8.toNat_ofNat']
  omega
theorem Sl.of_size {W : World} {A : Option Addr} {c : Nat} {bs : List UInt8} (h : Rd W A bs) (hl : bs.length ≤ c) (hc : c ≤ reachBytes) : Sl W A c bs := by
  have h1 : reachBytes = 140737488351232 := by decide
  exact ⟨h, by omega, hl, by omega⟩
end Go.Proofs.Ytaalhicdeibodaa
