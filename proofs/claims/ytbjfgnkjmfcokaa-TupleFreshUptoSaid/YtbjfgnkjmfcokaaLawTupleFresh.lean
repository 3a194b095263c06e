/- coppicelaw03.TupleFresh: the row. -/
import Derived.Test.YtbjfgnkjmfcokaaRows
import Derived.Test.YtbjfgnkjmfcokaaArgs
import Derived.Test.YtbjfgnkjmfcokaaNtfresh
import Derived.Test.YtbjfgnkjmfcokaaVargs
import Derived.WalkKit
import Derived.ProofKit
import Derived.OpenShut
import Derived.ChangeOld
import Derived.SizedLaws
import Derived.Deep.CondSized
namespace Go.Proofs.Ytbjfgnkjmfcokaa.tupleFresh
open Go.ChangeShapes Go.WideShapes Go.ChangeAt Go.RowKit Go.Proofs
set_option linter.unusedVariables false
set_option maxRecDepth 100000 in
theorem lifted (os : Os) (started : os.Started) (H : Type) (enc : TypeId × Value → H) (F : Stop.Interp) :
    ReturnsInHanded {} Try.checked os 12 .any ((Rows.OpenSpec.upto Rows.tupleFreshSpec).pre6 enc Try.prog Try.f12 Rows.tupleFreshUptoRow.domain false) (((Rows.OpenSpec.upto Rows.tupleFreshSpec).at F).post enc Try.prog Try.f12 false true false false) := by
  refine returnsInHanded_of_cond_sized (C := Try.checked) (s := Rows.OpenSpec.upto Rows.tupleFreshSpec) (k := Rows.uptoSmall) rfl own' started (by kernel_rfl) Try.func12
    (OpenSpec.witness (enc := enc) (C := Try.checked) (s := Rows.OpenSpec.upto Rows.tupleFreshSpec) (k := Rows.uptoSmall) rfl false ⟨#[], #[.slice none 0 0, .slice none 0 0], []⟩ 8 (by kernel_rfl) (by kernel_rfl) (by kernel_rfl)
      (x := ([.nil, .nil], [], [])) (by kernel_rfl) rfl (by kernel_rfl)) ?_
  intro W base args ds gs before hval0 hW hcnd hk0 hsz0 _
  have hval : ∀ (j : Nat) t v, Try.f12.params[j]? = some t → args[j]? = some v → Value.okWide Try.prog W .any base t v := hval0
  have hsz : (DataW.weightsEach Try.prog (Try.f12.params.toList ++ Rows.tupleFreshSpec.plain.varTypes Try.prog) (ds ++ gs)).all (· ≤ reachBytes) = true := hsz0
  have hW' := hW
  obtain ⟨p, q, hA0, hV, rfl, hfz, hnd⟩ := hW
  have hA : DataW.TrodAll enc Try.prog W 0 (fun _ => true) true Try.f12.params.toList args.toList ds p := hA0
  rw [Try.params12] at hA hval hsz
  obtain ⟨v0, vs0, d0, ds0, p0, q0, hargs, rfl, rfl, h0, r0⟩ := trodAll_cons hA
  obtain ⟨v1, vs1, d1, ds1, p1, q1, rfl, rfl, rfl, h1, r1⟩ := trodAll_cons r0
  obtain ⟨rfl, rfl, rfl⟩ := trodAll_nil r1
  obtain rfl : args = #[v0, v1] := by cases args; simp_all
  obtain ⟨rfl, rfl⟩ := trodVars_none hV
  obtain ⟨a0, len0, cap0, rfl⟩ := okWide_slice Try.underlying23 (hval 0 23 v0 rfl rfl)
  have lt0 : ∀ x ∈ p0, x.block < W.heap.size := by obtain ⟨m, hm⟩ := h0; exact DataW.trod_lt m _ _ _ hm
  obtain ⟨_, _, l0, e0, s0, g0, t0⟩ : ∃ A c l, Value.slice a0 len0 cap0 = .slice A l.length c ∧ DL W A c l ∧ l.length + 2 ≤ 2199023255552 ∧ ∀ v ∈ l, v.text.length ≤ Rows.uptoBulk d0 := by
    obtain ⟨n, hn⟩ := h0
    exact vals_of_trod (y := (d0, p0)) (by simpa [Value.cells] using hn) (fun n hn => List.all_eq_true.1 hsz _ (DataW.weights_mem_each (j := 0) (t := 23) rfl rfl n hn))
  injection e0 with e1 e2 e3
  subst e1 e2 e3
  obtain ⟨a1, len1, cap1, rfl⟩ := okWide_slice Try.underlying23 (hval 1 23 v1 rfl rfl)
  have lt1 : ∀ x ∈ p1, x.block < W.heap.size := by obtain ⟨m, hm⟩ := h1; exact DataW.trod_lt m _ _ _ hm
  obtain ⟨_, _, l1, e1, s1, g1, t1⟩ : ∃ A c l, Value.slice a1 len1 cap1 = .slice A l.length c ∧ DL W A c l ∧ l.length + 2 ≤ 2199023255552 ∧ ∀ v ∈ l, v.text.length ≤ Rows.uptoBulk d1 := by
    obtain ⟨n, hn⟩ := h1
    exact vals_of_trod (y := (d1, p1)) (by simpa [Value.cells] using hn) (fun n hn => List.all_eq_true.1 hsz _ (DataW.weights_mem_each (j := 1) (t := 23) rfl rfl n hn))
  injection e1 with e1 e2 e3
  subst e1 e2 e3
  clear hA0 hval0
  have hk : Rows.uptoBulkAll [d0, d1] ≤ 1048576 := of_decide_eq_true (by simpa [Rows.uptoSmall] using hk0)
  refine (tfresh_any s0 g0 (fun v hv => Nat.le_trans (t0 v hv) (by simp only [Rows.uptoBulkAll] at hk; omega)) s1 g1 (fun v hv => Nat.le_trans (t1 v hv) (by simp only [Rows.uptoBulkAll] at hk; omega))).mono fun e W' ⟨he, bel⟩ => ?_
  subst he
  exact ⟨_, rfl, _, _, _, [], _, [], hW', trodAll_mk1 (shut_bool Try.underlying4 _), (trodAll_cons_mk (Below.trod laidOut' (by kernel_rfl) (of_decide_eq_true (by kernel_rfl)) h0 bel lt0) (trodAll_cons_mk (Below.trod laidOut' (by kernel_rfl) (of_decide_eq_true (by kernel_rfl)) h1 bel lt1) trodAll_mk0)), rfl, bel.frame _, fun h => by cases h⟩
theorem over : Rows.tupleFreshUptoRow.holds Try.pinned (Rows.OpenSpec.upto Rows.tupleFreshSpec) :=
  OpenClaim.holds_of_cond 12 Try.f12 rfl rfl rfl rfl rfl rfl rfl ⟨rfl, rfl, rfl, rfl, rfl⟩ rfl rfl rfl rfl rfl (by kernel_rfl) Try.func12 (by kernel_rfl)
    (of_decide_eq_true (by kernel_rfl)) (by unfold Func.isWrapper; first | (rw [if_pos (by decide +kernel)]; kernel_rfl) | (rw [if_neg (by decide +kernel)]; exact ⟨rfl, rfl⟩))
    (fun os started H enc _ F => lifted os started H enc F)
/-- The statement. -/
theorem proved : Rows.TupleFreshUptoSaid := over
#print axioms proved
end Go.Proofs.Ytbjfgnkjmfcokaa.tupleFresh
