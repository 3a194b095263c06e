/- Layer 3: the marks of apart, compared whole. No condition. -/
import Derived.Test.YtbjfgnkjmfcokaaTlist
import Derived.WalkLawsBesides
namespace Go.Proofs.Ytbjfgnkjmfcokaa
open Go.RowKit Go.Proofs
set_option linter.unusedVariables false
theorem ord00 : (FloatKind.f64.format.order 0 0 == some .eq) = true := by decide
theorem eqF0 (w : World) : (Op.equalIn 9999 53 (.float .f64 0) (.float .f64 0)).run Try.prog w = .ok true w := by
  rw [show (9999 : Nat) = 9998 + 1 from rfl]
  unfold Op.equalIn
  rw [Sem.run_bind, run_underlying Try.underlying53]
  rfl
theorem eqC0 (w : World) : (Op.equalIn 9999 54 (.complex .f64 0 0) (.complex .f64 0 0)).run Try.prog w = .ok true w := by
  rw [show (9999 : Nat) = 9998 + 1 from rfl]
  unfold Op.equalIn
  rw [Sem.run_bind, run_underlying Try.underlying54]
  rfl
theorem eqP0 (k i : Int) (b : Bool) (t : List UInt8) (w : World) : (Op.equalIn 10000 56 (Vl.mk k b i 0 0 0 t).p (Vl.mk k b i 0 0 0 t).p).run Try.prog w = .ok true w := by
  have u3 := Try.underlying3
  have u2 := Try.underlying2
  have u4 := Try.underlying4
  have u9 := Try.underlying9
  have u53 := Try.underlying53
  have u54 := Try.underlying54
  have hS : Try.prog.underlying 56 = some (.struct (Try.prog.fieldsOf 56)) := by kernel_rfl
  have hp : Try.prog.stoodInHeld 56 = false := by kernel_rfl
  have hf := eqF0
  have hcx := eqC0
  rw [show (10000 : Nat) = 9999 + 1 from rfl, run_equalIn_agg w 9999 56 _ _ hS hp]
  simp only [Program.fieldsOf, Try.underlying56]
  go_simp
theorem neqP0 (k i : Int) (b : Bool) (t : List UInt8) (w : World) : (binOp .neq 56 (Vl.mk k b i 0 0 0 t).p (Vl.mk k b i 0 0 0 t).p).run Try.prog w = .ok (.bool false) w := by
  rw [run_neq_struct, eqP0]
  rfl
end Go.Proofs.Ytbjfgnkjmfcokaa
