/- Arguments of type api.Range opened. No condition. -/
import Derived.Test.YtijlaknfagpglaaArgs
import Derived.Lib.SmallJoins
namespace Go.Proofs.Ytijlaknfagpglaa
open Go.ChangeShapes Go.WideShapes Go.ChangeAt Go.RowKit Go.Joins
theorem slv_of_trod {H : Type} {enc : TypeId × Value → H} {W : World} {v : Value} {y : DataW H × List MemPlace} {n : Nat} (hf : DataW.trod enc Try.prog W 0 (fun _ => true) true n 22 [v] = some y)
    (hz : ∀ k ∈ y.1.weights Try.prog 22, (decide (k ≤ reachBytes)) = true) : ∃ (A : Option Addr) (c : Nat) (bs : List UInt8), v = .slice A bs.length c ∧ Sl W A c bs := by
  have hv : ∃ A l c, v = .slice A l c := by
    rcases open_ints Try.underlying22 Try.underlying5 (by kernel_rfl) hf with ⟨hcs, _⟩ | ⟨x, l, c, zs, hcs, _⟩
    · injection hcs with hcs _; exact ⟨_, _, _, hcs⟩
    · injection hcs with hcs _; exact ⟨_, _, _, hcs⟩
  obtain ⟨A, l, c, rfl⟩ := hv
  obtain ⟨d, p⟩ := y
  obtain ⟨bs, rfl, rd, le, _, sz⟩ := sl_of_trod (d := d) (p := p) rfl ⟨n, by simpa [Value.cells] using hf⟩
  refine ⟨A, c, bs, rfl, Sl.of_size rd le ?_⟩
  rcases sz with ⟨_, h⟩ | ⟨el, sp, rfl, h⟩
  · rw [h]; exact Nat.zero_le _
  · have := of_decide_eq_true (hz ((el.length + sp.length) * Try.prog.bytesOf 5) (by simp [DataW.weights, Try.underlying22]))
    rwa [bytesU8, Nat.mul_one, h] at this
theorem cellsRg : Try.prog.cellsOf 32 = 3 := by kernel_rfl
theorem range_of_trod {H : Type} {enc : TypeId × Value → H} {W : World} {b0 : Nat} {v : Value} {d : DataW H} {p : List MemPlace} (hv : Value.okWide Try.prog W .any b0 32 v) (h0 : DataW.Trod enc Try.prog W 0 (fun _ => true) true 32 v d p)
    (hz : ∀ k ∈ d.weights Try.prog 32, (decide (k ≤ reachBytes)) = true) :
    ∃ (lA : Option Addr) (lc : Nat) (hA : Option Addr) (hc : Nat) (lo hi : List UInt8) (op : Bool), v = .agg #[.slice lA lo.length lc, .slice hA hi.length hc, .bool op] ∧ Sl W lA lc lo ∧ Sl W hA hc hi := by
  obtain ⟨v0, v1, v2, y0, y1, y2, n, rfl, rfl, rfl, t0, t1, t2⟩ := open_agg3 Try.underlying32 (by kernel_rfl) cellsRg hv h0
  obtain ⟨lA, lc, lo, rfl, s0⟩ := slv_of_trod t0 (fun k hk => hz k (by simp [DataW.weights, Try.underlying32, DataW.weightsEach]; exact .inl hk))
  obtain ⟨hA, hc, hi, rfl, s1⟩ := slv_of_trod t1 (fun k hk => hz k (by simp [DataW.weights, Try.underlying32, DataW.weightsEach]; exact .inr (.inl hk)))
  obtain ⟨b, hb, _⟩ := DataW.trod_bool Try.underlying4 t2
  injection hb with hb _
  exact ⟨lA, lc, hA, hc, lo, hi, b, by rw [hb], s0, s1⟩
end Go.Proofs.Ytijlaknfagpglaa
