/- Arguments of type api.Range opened. No condition. -/
import Derived.Test.YtjjbckdiojleeaaArgs
import Derived.Lib.SmallJoins
namespace Go.Proofs.Ytjjbckdiojleeaa
open Go.ChangeShapes Go.WideShapes Go.ChangeAt Go.RowKit Go.Joins
theorem slv_of_trod {H : Type} {enc : TypeId × Value → H} {W : World} {v : Value} {y : DataW H × List MemPlace} {n : Nat} (hf : DataW.trod enc Try.prog W 0 (fun _ => true) true n 24 [v] = some y)
    (hz : ∀ k ∈ y.1.weights Try.prog 24, (decide (k ≤ reachBytes)) = true) : ∃ (A : Option Addr) (c : Nat) (bs : List UInt8), v = .slice A bs.length c ∧ Sl W A c bs := by
  have hv : ∃ A l c, v = .slice A l c := by
    rcases open_ints Try.underlying24 Try.underlying5 (by kernel_rfl) hf with ⟨hcs, _⟩ | ⟨x, l, c, zs, hcs, _⟩
    · injection hcs with hcs _; exact ⟨_, _, _, hcs⟩
    · injection hcs with hcs _; exact ⟨_, _, _, hcs⟩
  obtain ⟨A, l, c, rfl⟩ := hv
  obtain ⟨d, p⟩ := y
  obtain ⟨bs, rfl, rd, le, _, sz⟩ := sl_of_trod (d := d) (p := p) rfl ⟨n, by simpa [Value.cells] using hf⟩
  refine ⟨A, c, bs, rfl, Sl.of_size rd le ?_⟩
  rcases sz with ⟨_, h⟩ | ⟨el, sp, rfl, h⟩
  · rw [h]; exact Nat.zero_le _
  · have := of_decide_eq_true (hz ((el.length + sp.length) * Try.prog.bytesOf 5) (by simp [DataW.weights, Try.underlying24]))
    rwa [bytesU8, Nat.mul_one, h] at this
end Go.Proofs.Ytjjbckdiojleeaa
