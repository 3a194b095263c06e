/- The law SpanNothingBetween: no key lies between a key and its Next. No condition. -/
import Derived.Test.YtijlaknfagpglaaRows
import Derived.Test.YtijlaknfagpglaaArgs
import Derived.Test.YtijlaknfagpglaaSpanj
import Derived.WalkKit
import Derived.ProofKit
import Derived.OpenShut
import Derived.ChangeOld
import Derived.SizedLaws
namespace Go.Proofs.Ytijlaknfagpglaa.spanNothingBetween
open Go.ChangeShapes Go.WideShapes Go.ChangeAt Go.RowKit Go.Proofs
set_option linter.unusedVariables false
/-! ### The walk -/
theorem gt_one {a b : List UInt8} (h : LtB b a) : cmpB a b = 1 := by
  have h1 := gt_iff.2 h
  have h2 := cmpB_bd a b
  omega
set_option maxHeartbeats 2000000 in
theorem walk {A B : Option Addr} {c d : Nat} {ks xs : List UInt8} {w : World} (ha : Sl w A c ks) (hb : Sl w B d xs) :
    Calls Try.prog 5 #[.slice A ks.length c, .slice B xs.length d] w fun e w' => e = .returned (.bool true) ∧ Ext w w' := by
  have hl24 := nextB_length ks
  have hgt := nextB_gt ks
  have hlst := nextB_least ks xs
  obtain ⟨n, hn⟩ : ∃ n, nextB ks = n := ⟨_, rfl⟩
  have HN := Lib.hid hn
  rw [hn] at hl24 hgt hlst
  clear hn
  have hlx := hb.len
  go_enter Try.func5, Try.ntmps5
  go_wp2_with fail
  refine fixed_any.mono ?_
  rintro e w1 ⟨rfl, hE1⟩
  go_wp2_with fail
  refine (next_any (ha.ext hE1) rfl).mono ?_
  rintro e w2 ⟨A2, c2, rfl, ho2, hE2⟩
  rw [HN.out] at ho2 ⊢
  have s2 := ho2.sl (by omega)
  replace hE2 := hE1.trans hE2
  clear ho2 hE1
  by_cases h0 : n = []
  · subst h0
    have HL := Lib.hid hlst
    clear hlst hgt
    by_cases x1 : xs.length < 1
    · go_wp2
      go_ret
      exact ⟨rfl, hE2⟩
    · by_cases x2 : 24 < xs.length
      · go_wp2
        go_ret
        exact ⟨rfl, hE2⟩
      · have x3 : 1 ≤ xs.length := by omega
        have x4 : xs.length ≤ 24 := by omega
        clear x1 x2
        go_wp2_with fail
        refine (scmp_any (hb.ext hE2) (ha.ext hE2) rfl rfl).mono ?_
        rintro e w3 ⟨rfl, hE3⟩
        by_cases x5 : 0 < cmpB xs ks
        · exact absurd rfl (HL.out x4 (gt_iff.1 x5)).1
        · have x6 : cmpB xs ks ≤ 0 := by omega
          clear x5
          go_wp2
          go_ret
          exact ⟨rfl, hE2.trans hE3⟩
  · have HL := Lib.hid hlst
    have hc1 := gt_one (hgt h0)
    have h1 : 0 < n.length := List.length_pos_iff.2 h0
    clear hlst hgt
    go_wp2_with fail
    refine (scmp_any s2 (ha.ext hE2) rfl rfl).mono ?_
    rintro e w3 ⟨rfl, hE3⟩
    rw [hc1]
    have s3 := s2.ext hE3
    replace hE3 := hE2.trans hE3
    by_cases x1 : xs.length < 1
    · go_wp2
      go_ret
      exact ⟨rfl, hE3⟩
    · by_cases x2 : 24 < xs.length
      · go_wp2
        go_ret
        exact ⟨rfl, hE3⟩
      · have x3 : 1 ≤ xs.length := by omega
        have x4 : xs.length ≤ 24 := by omega
        clear x1 x2
        go_wp2_with fail
        refine (scmp_any (hb.ext hE3) (ha.ext hE3) rfl rfl).mono ?_
        rintro e w4 ⟨rfl, hE4⟩
        by_cases x5 : 0 < cmpB xs ks
        · have hge := ge_iff.2 (HL.out x4 (gt_iff.1 x5)).2
          have s4 := s3.ext hE4
          replace hE4 := hE3.trans hE4
          go_wp2_with fail
          refine (scmp_any (hb.ext hE4) s4 rfl rfl).mono ?_
          rintro e w5 ⟨rfl, hE5⟩
          go_wp2
          go_ret
          exact ⟨ret_bool (by first | rfl | (simp; exact hge)), hE4.trans hE5⟩
        · have x6 : cmpB xs ks ≤ 0 := by omega
          clear x5
          go_wp2
          go_ret
          exact ⟨rfl, hE3.trans hE4⟩
set_option maxRecDepth 100000 in
theorem lifted (os : Os) (started : os.Started) (H : Type) (enc : TypeId × Value → H) :
    ReturnsInHanded {} Try.checked os 5 .any (Rows.spanNothingBetweenSpec.pre6 enc Try.prog Try.f5 Rows.spanNothingBetweenRow.domain false) (Rows.spanNothingBetweenSpec.post enc Try.prog Try.f5 false true false false) := by
  refine returnsInHanded_of_change_sized (C := Try.checked) own' started (by kernel_rfl) Try.func5
    (ChangeSpec.witness6 (enc := enc) (C := Try.checked) false ⟨#[], #[.slice none 0 0, .slice none 0 0], []⟩ 8 (by kernel_rfl) (by kernel_rfl) (by kernel_rfl) (by kernel_rfl)) ?_
  intro W base args ds gs before hval0 hW hcnd hsz0 _
  have hval : ∀ (j : Nat) t v, Try.f5.params[j]? = some t → args[j]? = some v → Value.okWide Try.prog W .any base t v := hval0
  have hsz : (DataW.weightsEach Try.prog (Try.f5.params.toList ++ Rows.spanNothingBetweenSpec.plain.varTypes Try.prog) (ds ++ gs)).all (· ≤ reachBytes) = true := hsz0
  have hW' := hW
  obtain ⟨p, q, hA0, hV, rfl, hfz, hnd⟩ := hW
  have hA : DataW.TrodAll enc Try.prog W 0 (fun _ => true) true Try.f5.params.toList args.toList ds p := hA0
  rw [Try.params5] at hA hval hsz
  obtain ⟨v0, vs0, d0, ds0, p0, q0, hargs, rfl, rfl, h0, r0⟩ := trodAll_cons hA
  obtain ⟨v1, vs1, d1, ds1, p1, q1, rfl, rfl, rfl, h1, r1⟩ := trodAll_cons r0
  obtain ⟨rfl, rfl, rfl⟩ := trodAll_nil r1
  obtain rfl : args = #[v0, v1] := by cases args; simp_all
  obtain ⟨rfl, rfl⟩ := trodVars_none hV
  obtain ⟨a0, len0, cap0, rfl⟩ := okWide_slice Try.underlying22 (hval 0 22 v0 rfl rfl)
  have lt0 : ∀ x ∈ p0, x.block < W.heap.size := by obtain ⟨m, hm⟩ := h0; exact DataW.trod_lt m _ _ _ hm
  obtain ⟨b0, rfl, rd0, le0, _, sz0⟩ := sl_of_trod rfl h0
  have s0 : Sl W a0 cap0 b0 := Sl.of_size rd0 le0 (by
    rcases sz0 with ⟨_, h⟩ | ⟨el, sp, he, h⟩
    · rw [h]; exact Nat.zero_le _
    · have := sized_slice hsz (j := 0) (t := 22) (e := 5) rfl (by rw [he]; rfl) Try.underlying22
      rwa [bytesU8, Nat.mul_one, h] at this)
  obtain ⟨a1, len1, cap1, rfl⟩ := okWide_slice Try.underlying22 (hval 1 22 v1 rfl rfl)
  have lt1 : ∀ x ∈ p1, x.block < W.heap.size := by obtain ⟨m, hm⟩ := h1; exact DataW.trod_lt m _ _ _ hm
  obtain ⟨b1, rfl, rd1, le1, _, sz1⟩ := sl_of_trod rfl h1
  have s1 : Sl W a1 cap1 b1 := Sl.of_size rd1 le1 (by
    rcases sz1 with ⟨_, h⟩ | ⟨el, sp, he, h⟩
    · rw [h]; exact Nat.zero_le _
    · have := sized_slice hsz (j := 1) (t := 22) (e := 5) rfl (by rw [he]; rfl) Try.underlying22
      rwa [bytesU8, Nat.mul_one, h] at this)
  clear hA0 hval0
  refine (walk s0 s1).mono fun e W' ⟨he, bel⟩ => ?_
  subst he
  exact ⟨_, rfl, _, _, _, [], _, [], hW', trodAll_mk1 (shut_bool Try.underlying4 _), (trodAll_cons_mk (Below.trod laidOut' (by kernel_rfl) (of_decide_eq_true (by kernel_rfl)) h0 bel lt0) (trodAll_cons_mk (Below.trod laidOut' (by kernel_rfl) (of_decide_eq_true (by kernel_rfl)) h1 bel lt1) trodAll_mk0)), rfl, bel.frame _, fun h => by cases h⟩
theorem over : Rows.spanNothingBetweenRow.holds Try.pinned (OpenSpec.ofChange Rows.spanNothingBetweenSpec) :=
  OpenClaim.holds_of_wide 5 Try.f5 rfl rfl rfl rfl rfl rfl rfl ⟨rfl, rfl, rfl, rfl, rfl⟩ rfl rfl rfl rfl rfl (by kernel_rfl) Try.func5 (by kernel_rfl)
    (of_decide_eq_true (by kernel_rfl)) (by unfold Func.isWrapper; first | (rw [if_pos (by decide +kernel)]; kernel_rfl) | (rw [if_neg (by decide +kernel)]; exact ⟨rfl, rfl⟩))
    (fun os started H enc _ => lifted os started H enc)
/-- The statement. -/
theorem proved : Rows.SpanNothingBetweenSaid := over
#print axioms proved
end Go.Proofs.Ytijlaknfagpglaa.spanNothingBetween
