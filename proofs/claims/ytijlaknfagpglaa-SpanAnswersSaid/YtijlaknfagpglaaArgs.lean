/- Arguments of type []byte opened: what a row's reading of a slice says of memory. No condition. -/
import Derived.Test.YtijlaknfagpglaaWords
import Derived.Test.YtijlaknfagpglaaChecked
import Derived.OpenShut
import Derived.ChangeOld
import Derived.SizedLaws
import Derived.ProofKit
namespace Go.Proofs.Ytijlaknfagpglaa
open Go.ChangeShapes Go.WideShapes Go.ChangeAt Go.RowKit
theorem own' : ownKnob Try.prog.godebug = none := by kernel_rfl
theorem laidOut' : laidOutB Try.prog = true := by kernel_rfl
theorem bytesU8 : Try.prog.bytesOf 5 = 1 := by kernel_rfl
def toB (zs : List Int) : List UInt8 := zs.map fun n => UInt8.ofNat n.toNat
theorem at8_toB {zs : List Int} {i : Nat} (hw : ∀ n ∈ zs, (Lit.int .u8 n).wf = true) (hi : i < zs.length) : at8 (toB zs) i = zs.getD i 0 := by
  have hm := hw zs[i] (List.getElem_mem hi)
  have hb : 0 ≤ zs[i] ∧ zs[i] ≤ 255 := by
    simp [Lit.wf] at hm
    have e1 : IntKind.u8.min = 0 := by decide
    have e2 : IntKind.u8.max = 255 := by decide
    omega
  unfold at8 toB
  simp only [List.getD_eq_getElem?_getD, List.getElem?_map, List.getElem?_eq_getElem hi, Option.map_some, Option.getD_some]
  rw [UInt8.toNat_ofNat']
  omega
/-- What is known of a slice of bytes that has come in. -/
theorem sl_of_trod {H : Type} {enc : TypeId × Value → H} {W : World} {sp : Nat → Bool} {hd : Bool} (hsp : sp = fun _ => true) {a0 : Option Addr} {len0 cap0 : Nat} {d : DataW H} {p : List MemPlace} (h0 : DataW.Trod enc Try.prog W 0 sp hd 22 (.slice a0 len0 cap0) d p) :
    ∃ bs : List UInt8, len0 = bs.length ∧ Rd W a0 bs ∧ bs.length ≤ cap0 ∧ cap0 ≤ 9223372036854775807 ∧ ((d = .nil ∧ cap0 = 0) ∨ ∃ el sp, d = .slice el sp ∧ el.length + sp.length = cap0) := by
  subst hsp
  obtain ⟨fuel, hf⟩ := h0
  rcases open_ints Try.underlying22 Try.underlying5 (by kernel_rfl) hf with ⟨hcs, hx⟩ | ⟨x, l, c, zs, hcs, _, hl, hm, hz, hx, hcell, hwz⟩
  · simp [Value.cells] at hcs
    obtain ⟨rfl, rfl, rfl⟩ := hcs
    injection hx with hx _
    exact ⟨[], rfl, Rd.nil _ _, Nat.le_refl _, by omega, .inl ⟨hx, rfl⟩⟩
  · simp [Value.cells] at hcs
    obtain ⟨rfl, rfl, rfl⟩ := hcs
    simp only [if_true] at hz
    injection hx with hx _
    have hwt : ∀ n ∈ zs.take len0, (Lit.int .u8 n).wf = true := fun n hn => hwz n (List.mem_of_mem_take hn)
    have hlt : (zs.take len0).length = len0 := by simp; omega
    refine ⟨toB (zs.take len0), by simp [toB]; omega, fun hn => ?_, by simp [toB]; omega, by simpa [maxLen] using hm, .inr ⟨_, _, hx, by simp [lits]; omega⟩⟩
    have hn0 : 0 < len0 := by rw [← hlt]; simpa [toB] using hn
    obtain ⟨b, off, spot⟩ := x
    have hspot : spot = none := by
      have := hcell 0 (by omega)
      simpa [Addr.add] using World.cell?_spot this
    subst hspot
    refine ⟨b, off, rfl, fun i hi => ?_⟩
    have hi2 : i < len0 := by rw [← hlt]; simpa [toB] using hi
    have := hcell i (by omega)
    have e : (⟨b, off, none⟩ : Addr).add i = ⟨b, off + i, none⟩ := by unfold Addr.add; split <;> simp_all
    rw [e] at this
    rw [this, at8_toB hwt (by omega)]
    simp only [List.getD_eq_getElem?_getD]
    rw [List.getElem?_take, if_pos hi2]
theorem Sl.of_size {W : World} {A : Option Addr} {c : Nat} {bs : List UInt8} (h : Rd W A bs) (hl : bs.length ≤ c) (hc : c ≤ reachBytes) : Sl W A c bs := by
  have h1 : reachBytes = 140737488351232 := by decide
  exact ⟨h, by omega, hl, by omega⟩
end Go.Proofs.Ytijlaknfagpglaa
