/- Layer 3: two of the document's values compared whole. No condition. -/
import Derived.Test.YtbjfgnkjmfcokaaTlist
namespace Go.Proofs.Ytbjfgnkjmfcokaa
open Go.RowKit Go.Proofs
theorem eqV (v u : Vl) (w : World) : (Op.equalIn 10000 51 v.d u.d).run Try.prog w = .ok (decide (v = u)) w := by
  have u3 := Try.underlying3
  have u2 := Try.underlying2
  have u4 := Try.underlying4
  have u9 := Try.underlying9
  have u49 := Try.underlying49
  have hS : Try.prog.underlying 51 = some (.struct (Try.prog.fieldsOf 51)) := by kernel_rfl
  have hp : Try.prog.stoodInHeld 51 = false := by kernel_rfl
  obtain ⟨k1, b1, i1, r1, e1, m1, t1⟩ := v
  obtain ⟨k2, b2, i2, r2, e2, m2, t2⟩ := u
  rw [show (10000 : Nat) = 9999 + 1 from rfl, run_equalIn_agg w 9999 51 _ _ hS hp]
  simp only [Program.fieldsOf, Try.underlying51]
  go_simp
  simp only [Int.natCast_inj]
  by_cases h1 : k1 = k2
  · by_cases h2 : b1 = b2
    · by_cases h3 : i1 = i2
      · by_cases h4 : r1 = r2
        · by_cases h5 : e1 = e2
          · by_cases h6 : m1 = m2
            · by_cases h7 : t1 = t2 <;> simp [h1, h2, h3, h4, h5, h6, h7]
            · simp [h1, h2, h3, h4, h5, h6]
          · simp [h1, h2, h3, h4, h5]
        · simp [h1, h2, h3, h4]
      · simp [h1, h2, h3]
    · simp [h1, h2]
  · simp [h1]
theorem neqV (v u : Vl) (w : World) : (binOp .neq 51 v.d u.d).run Try.prog w = .ok (.bool (!decide (v = u))) w := by
  rw [run_neq_struct, eqV]
  rfl
end Go.Proofs.Ytbjfgnkjmfcokaa
