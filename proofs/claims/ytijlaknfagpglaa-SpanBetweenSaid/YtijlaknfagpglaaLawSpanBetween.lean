/- The law SpanBetween: Between is that of the reference. No condition. -/
import Derived.Test.YtijlaknfagpglaaRows
import Derived.Test.YtijlaknfagpglaaArgs
import Derived.Test.YtijlaknfagpglaaSpanj
import Derived.Test.YtijlaknfagpglaaSpank
import Derived.WalkKit
import Derived.ProofKit
import Derived.OpenShut
import Derived.ChangeOld
import Derived.SizedLaws
namespace Go.Proofs.Ytijlaknfagpglaa.spanBetween
open Go.ChangeShapes Go.WideShapes Go.ChangeAt Go.RowKit Go.Proofs
set_option linter.unusedVariables false
/-! ### The walk -/
theorem betwK_len (a b : List UInt8) : (betwK a b).length ≤ 24 := by
  unfold betwK
  cases h : betwB a b with
  | none => simp
  | some k => exact (betwB_some h).2.1
set_option maxHeartbeats 2000000 in
theorem walk {A B : Option Addr} {c d : Nat} {xs ys : List UInt8} {w : World} (ha : Sl w A c xs) (hb : Sl w B d ys) :
    Calls Try.prog 6 #[.slice A xs.length c, .slice B ys.length d] w fun e w' => e = .returned (.bool true) ∧ Ext w w' := by
  have hl := betwK_len xs ys
  have hq := Lib.hid (eqB_self (betwK xs ys))
  obtain ⟨s, hs⟩ : ∃ s, (betwB xs ys).isSome = s := ⟨_, rfl⟩
  have HS := Lib.hid hs
  clear hs
  go_enter Try.func6, Try.ntmps6
  go_wp2_with fail
  refine (between_any ha hb rfl rfl).mono ?_
  rintro e w2 ⟨A2, c2, rfl, ho2, hE2⟩
  have s2 := ho2.sl (by omega)
  go_wp2_with fail
  refine (rbetween_any (ha.ext hE2) (hb.ext hE2) rfl rfl).mono ?_
  rintro e w3 ⟨A3, c3, rfl, ho3, hE3⟩
  have s3 := ho3.sl (by omega)
  replace s2 := s2.ext hE3
  replace hE3 := hE2.trans hE3
  rw [HS.out]
  go_wp2_with fail
  refine fixed_any.mono ?_
  rintro e w4 ⟨rfl, hE4⟩
  cases s <;>
  · go_wp2_with fail
    refine (eqb_any (s2.ext hE4) (s3.ext hE4) rfl rfl).mono ?_
    rintro e w5 ⟨rfl, hE5⟩
    go_wp2
    go_ret
    exact ⟨ret_bool hq.out, (hE3.trans hE4).trans hE5⟩
set_option maxRecDepth 100000 in
theorem lifted (os : Os) (started : os.Started) (H : Type) (enc : TypeId × Value → H) :
    ReturnsInHanded {} Try.checked os 6 .any (Rows.spanBetweenSpec.pre6 enc Try.prog Try.f6 Rows.spanBetweenRow.domain false) (Rows.spanBetweenSpec.post enc Try.prog Try.f6 false true false false) := by
  refine returnsInHanded_of_change_sized (C := Try.checked) own' started (by kernel_rfl) Try.func6
    (ChangeSpec.witness6 (enc := enc) (C := Try.checked) false ⟨#[], #[.slice none 0 0, .slice none 0 0], []⟩ 8 (by kernel_rfl) (by kernel_rfl) (by kernel_rfl) (by kernel_rfl)) ?_
  intro W base args ds gs before hval0 hW hcnd hsz0 _
  have hval : ∀ (j : Nat) t v, Try.f6.params[j]? = some t → args[j]? = some v → Value.okWide Try.prog W .any base t v := hval0
  have hsz : (DataW.weightsEach Try.prog (Try.f6.params.toList ++ Rows.spanBetweenSpec.plain.varTypes Try.prog) (ds ++ gs)).all (· ≤ reachBytes) = true := hsz0
  have hW' := hW
  obtain ⟨p, q, hA0, hV, rfl, hfz, hnd⟩ := hW
  have hA : DataW.TrodAll enc Try.prog W 0 (fun _ => true) true Try.f6.params.toList args.toList ds p := hA0
  rw [Try.params6] at hA hval hsz
  obtain ⟨v0, vs0, d0, ds0, p0, q0, hargs, rfl, rfl, h0, r0⟩ := trodAll_cons hA
  obtain ⟨v1, vs1, d1, ds1, p1, q1, rfl, rfl, rfl, h1, r1⟩ := trodAll_cons r0
  obtain ⟨rfl, rfl, rfl⟩ := trodAll_nil r1
  obtain rfl : args = #[v0, v1] := by cases args; simp_all
  obtain ⟨rfl, rfl⟩ := trodVars_none hV
  obtain ⟨a0, len0, cap0, rfl⟩ := okWide_slice Try.underlying22 (hval 0 22 v0 rfl rfl)
  have lt0 : ∀ x ∈ p0, x.block < W.heap.size := by obtain ⟨m, hm⟩ := h0; exact DataW.trod_lt m _ _ _ hm
  obtain ⟨b0, rfl, rd0, le0, _, sz0⟩ := sl_of_trod rfl h0
  have s0 : Sl W a0 cap0 b0 := Sl.of_size rd0 le0 (by
    rcases sz0 with ⟨_, h⟩ | ⟨el, sp, he, h⟩
    · rw [h]; exact Nat.zero_le _
    · have := sized_slice hsz (j := 0) (t := 22) (e := 5) rfl (by rw [he]; rfl) Try.underlying22
      rwa [bytesU8, Nat.mul_one, h] at this)
  obtain ⟨a1, len1, cap1, rfl⟩ := okWide_slice Try.underlying22 (hval 1 22 v1 rfl rfl)
  have lt1 : ∀ x ∈ p1, x.block < W.heap.size := by obtain ⟨m, hm⟩ := h1; exact DataW.trod_lt m _ _ _ hm
  obtain ⟨b1, rfl, rd1, le1, _, sz1⟩ := sl_of_trod rfl h1
  have s1 : Sl W a1 cap1 b1 := Sl.of_size rd1 le1 (by
    rcases sz1 with ⟨_, h⟩ | ⟨el, sp, he, h⟩
    · rw [h]; exact Nat.zero_le _
    · have := sized_slice hsz (j := 1) (t := 22) (e := 5) rfl (by rw [he]; rfl) Try.underlying22
      rwa [bytesU8, Nat.mul_one, h] at this)
  clear hA0 hval0
  refine (walk s0 s1).mono fun e W' ⟨he, bel⟩ => ?_
  subst he
  exact ⟨_, rfl, _, _, _, [], _, [], hW', trodAll_mk1 (shut_bool Try.underlying4 _), (trodAll_cons_mk (Below.trod laidOut' (by kernel_rfl) (of_decide_eq_true (by kernel_rfl)) h0 bel lt0) (trodAll_cons_mk (Below.trod laidOut' (by kernel_rfl) (of_decide_eq_true (by kernel_rfl)) h1 bel lt1) trodAll_mk0)), rfl, bel.frame _, fun h => by cases h⟩
theorem over : Rows.spanBetweenRow.holds Try.pinned (OpenSpec.ofChange Rows.spanBetweenSpec) :=
  OpenClaim.holds_of_wide 6 Try.f6 rfl rfl rfl rfl rfl rfl rfl ⟨rfl, rfl, rfl, rfl, rfl⟩ rfl rfl rfl rfl rfl (by kernel_rfl) Try.func6 (by kernel_rfl)
    (of_decide_eq_true (by kernel_rfl)) (by unfold Func.isWrapper; first | (rw [if_pos (by decide +kernel)]; kernel_rfl) | (rw [if_neg (by decide +kernel)]; exact ⟨rfl, rfl⟩))
    (fun os started H enc _ => lifted os started H enc)
/-- The statement. -/
theorem proved : Rows.SpanBetweenSaid := over
#print axioms proved
end Go.Proofs.Ytijlaknfagpglaa.spanBetween
