/- The law SpanNext: Next is the reference's. No condition. -/
import Derived.Test.YtijlaknfagpglaaRows
import Derived.Test.YtijlaknfagpglaaArgs
import Derived.Test.YtijlaknfagpglaaSpanj
import Derived.WalkKit
import Derived.ProofKit
import Derived.OpenShut
import Derived.ChangeOld
import Derived.SizedLaws
namespace Go.Proofs.Ytijlaknfagpglaa.spanNext
open Go.ChangeShapes Go.WideShapes Go.ChangeAt Go.RowKit Go.Proofs
set_option linter.unusedVariables false
/-! ### The walk -/
set_option maxHeartbeats 1000000 in
theorem walk {A : Option Addr} {c : Nat} {xs : List UInt8} {w : World} (ha : Sl w A c xs) :
    Calls Try.prog 4 #[.slice A xs.length c] w fun e w' => e = .returned (.bool true) ∧ Ext w w' := by
  have hl := nextB_length xs
  have hq := Lib.hid (eqB_self (nextB xs))
  go_enter Try.func4, Try.ntmps4
  go_wp2_with fail
  refine fixed_any.mono ?_
  rintro e w1 ⟨rfl, hE1⟩
  go_wp2_with fail
  refine (next_any (ha.ext hE1) rfl).mono ?_
  rintro e w2 ⟨A2, c2, rfl, ho2, hE2⟩
  have s2 := ho2.sl (by omega)
  replace hE2 := hE1.trans hE2
  go_wp2_with fail
  refine (rnext_any (ha.ext hE2) rfl).mono ?_
  rintro e w3 ⟨A3, c3, rfl, ho3, hE3⟩
  have s3 := ho3.sl (by omega)
  go_wp2_with fail
  refine (eqb_any (s2.ext hE3) s3 rfl rfl).mono ?_
  rintro e w4 ⟨rfl, hE4⟩
  go_wp2
  go_ret
  exact ⟨ret_bool hq.out, (hE2.trans hE3).trans hE4⟩
set_option maxRecDepth 100000 in
theorem lifted (os : Os) (started : os.Started) (H : Type) (enc : TypeId × Value → H) :
    ReturnsInHanded {} Try.checked os 4 .any (Rows.spanNextSpec.pre6 enc Try.prog Try.f4 Rows.spanNextRow.domain false) (Rows.spanNextSpec.post enc Try.prog Try.f4 false true false false) := by
  refine returnsInHanded_of_change_sized (C := Try.checked) own' started (by kernel_rfl) Try.func4
    (ChangeSpec.witness6 (enc := enc) (C := Try.checked) false ⟨#[], #[.slice none 0 0], []⟩ 8 (by kernel_rfl) (by kernel_rfl) (by kernel_rfl) (by kernel_rfl)) ?_
  intro W base args ds gs before hval0 hW hcnd hsz0 _
  have hval : ∀ (j : Nat) t v, Try.f4.params[j]? = some t → args[j]? = some v → Value.okWide Try.prog W .any base t v := hval0
  have hsz : (DataW.weightsEach Try.prog (Try.f4.params.toList ++ Rows.spanNextSpec.plain.varTypes Try.prog) (ds ++ gs)).all (· ≤ reachBytes) = true := hsz0
  have hW' := hW
  obtain ⟨p, q, hA0, hV, rfl, hfz, hnd⟩ := hW
  have hA : DataW.TrodAll enc Try.prog W 0 (fun _ => true) true Try.f4.params.toList args.toList ds p := hA0
  rw [Try.params4] at hA hval hsz
  obtain ⟨v0, vs0, d0, ds0, p0, q0, hargs, rfl, rfl, h0, r0⟩ := trodAll_cons hA
  obtain ⟨rfl, rfl, rfl⟩ := trodAll_nil r0
  obtain rfl : args = #[v0] := by cases args; simp_all
  obtain ⟨rfl, rfl⟩ := trodVars_none hV
  obtain ⟨a0, len0, cap0, rfl⟩ := okWide_slice Try.underlying22 (hval 0 22 v0 rfl rfl)
  have lt0 : ∀ x ∈ p0, x.block < W.heap.size := by obtain ⟨m, hm⟩ := h0; exact DataW.trod_lt m _ _ _ hm
  obtain ⟨b0, rfl, rd0, le0, _, sz0⟩ := sl_of_trod rfl h0
  have s0 : Sl W a0 cap0 b0 := Sl.of_size rd0 le0 (by
    rcases sz0 with ⟨_, h⟩ | ⟨el, sp, he, h⟩
    · rw [h]; exact Nat.zero_le _
    · have := sized_slice hsz (j := 0) (t := 22) (e := 5) rfl (by rw [he]; rfl) Try.underlying22
      rwa [bytesU8, Nat.mul_one, h] at this)
  clear hA0 hval0
  refine (walk s0).mono fun e W' ⟨he, bel⟩ => ?_
  subst he
  exact ⟨_, rfl, _, _, _, [], _, [], hW', trodAll_mk1 (shut_bool Try.underlying4 _), (trodAll_cons_mk (Below.trod laidOut' (by kernel_rfl) (of_decide_eq_true (by kernel_rfl)) h0 bel lt0) trodAll_mk0), rfl, bel.frame _, fun h => by cases h⟩
theorem over : Rows.spanNextRow.holds Try.pinned (OpenSpec.ofChange Rows.spanNextSpec) :=
  OpenClaim.holds_of_wide 4 Try.f4 rfl rfl rfl rfl rfl rfl rfl ⟨rfl, rfl, rfl, rfl, rfl⟩ rfl rfl rfl rfl rfl (by kernel_rfl) Try.func4 (by kernel_rfl)
    (of_decide_eq_true (by kernel_rfl)) (by unfold Func.isWrapper; first | (rw [if_pos (by decide +kernel)]; kernel_rfl) | (rw [if_neg (by decide +kernel)]; exact ⟨rfl, rfl⟩))
    (fun os started H enc _ => lifted os started H enc)
/-- The statement. -/
theorem proved : Rows.SpanNextSaid := over
#print axioms proved
end Go.Proofs.Ytijlaknfagpglaa.spanNext
