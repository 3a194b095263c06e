/- The law SpanShortest: Between is the shortest, of those the least. No condition. -/
import Derived.Test.YtijlaknfagpglaaRows
import Derived.Test.YtijlaknfagpglaaArgs
import Derived.Test.YtijlaknfagpglaaSpanj
import Derived.WalkKit
import Derived.ProofKit
import Derived.OpenShut
import Derived.ChangeOld
import Derived.SizedLaws
namespace Go.Proofs.Ytijlaknfagpglaa.spanShortest
open Go.ChangeShapes Go.WideShapes Go.ChangeAt Go.RowKit Go.Proofs
set_option linter.unusedVariables false
/-! ### The walk -/
theorem gt_one {a b : List UInt8} (h : LtB b a) : cmpB a b = 1 := by
  have h1 := gt_iff.2 h
  have h2 := cmpB_bd a b
  omega
set_option maxHeartbeats 8000000 in
theorem walk {A B C : Option Addr} {c d f : Nat} {us bs xs : List UInt8} {w : World} (ha : Sl w A c us) (hb : Sl w B d bs) (hx : Sl w C f xs) :
    Calls Try.prog 7 #[.slice A us.length c, .slice B bs.length d, .slice C xs.length f] w fun e w' => e = .returned (.bool true) ∧ Ext w w' := by
  have hlx := hx.len
  have hlb := hb.len
  have hla := ha.len
  have hcl := comB_le us bs
  go_enter Try.func7, Try.ntmps7
  go_wp2_with fail
  refine fixed_any.mono ?_
  rintro e w1 ⟨rfl, hE1⟩
  go_wp2_with fail
  refine (between_any (ha.ext hE1) (hb.ext hE1) rfl rfl).mono ?_
  rintro e w2 ⟨A2, c2, rfl, ho2, hE2⟩
  replace hE2 := hE1.trans hE2
  cases hq : betwB us bs with
  | none =>
    have hk : betwK us bs = [] := by unfold betwK; rw [hq]; rfl
    rw [hk]
    have HL := Lib.hid (show xs.length ≤ 24 → LtB us xs → cmpB xs bs ≤ 0 → False from fun h1 h2 h3 => by
      obtain ⟨q, hq2, _⟩ := betwB_least h1 h2 h3
      rw [hq] at hq2
      cases hq2)
    have HK := Lib.hid (show bs.length ≤ 24 → LtB us bs → False from fun h1 h2 => by
      obtain ⟨q, hq2⟩ := betwB_key h2 h1
      rw [hq] at hq2
      cases hq2)
    clear hq hk ho2 hE1
    simp only [Option.isSome_none]
    by_cases y1 : bs.length < 1
    · by_cases x1 : xs.length < 1
      · go_wp2
        go_ret
        exact ⟨rfl, hE2⟩
      · by_cases x2 : 24 < xs.length
        · go_wp2
          go_ret
          exact ⟨rfl, hE2⟩
        · have x3 : 1 ≤ xs.length := by omega
          have x4 : xs.length ≤ 24 := by omega
          clear x1 x2
          go_wp2_with fail
          refine (scmp_any (hx.ext hE2) (ha.ext hE2) rfl rfl).mono ?_
          rintro e w8 ⟨rfl, hE8⟩
          by_cases x5 : 0 < cmpB xs us
          · go_wp2_with fail
            refine (scmp_any ((hx.ext hE2).ext hE8) ((hb.ext hE2).ext hE8) rfl rfl).mono ?_
            rintro e w9 ⟨rfl, hE9⟩
            by_cases x6 : 0 < cmpB xs bs
            · go_wp2
              go_ret
              exact ⟨rfl, hE2.trans (hE8.trans hE9)⟩
            · have x7 : cmpB xs bs ≤ 0 := by omega
              clear x6
              exact (HL.out x4 (gt_iff.1 x5) x7).elim
          · have x6 : cmpB xs us ≤ 0 := by omega
            clear x5
            go_wp2
            go_ret
            exact ⟨rfl, hE2.trans hE8⟩
    · by_cases y2 : 24 < bs.length
      · by_cases x1 : xs.length < 1
        · go_wp2
          go_ret
          exact ⟨rfl, hE2⟩
        · by_cases x2 : 24 < xs.length
          · go_wp2
            go_ret
            exact ⟨rfl, hE2⟩
          · have x3 : 1 ≤ xs.length := by omega
            have x4 : xs.length ≤ 24 := by omega
            clear x1 x2
            go_wp2_with fail
            refine (scmp_any (hx.ext hE2) (ha.ext hE2) rfl rfl).mono ?_
            rintro e w8 ⟨rfl, hE8⟩
            by_cases x5 : 0 < cmpB xs us
            · go_wp2_with fail
              refine (scmp_any ((hx.ext hE2).ext hE8) ((hb.ext hE2).ext hE8) rfl rfl).mono ?_
              rintro e w9 ⟨rfl, hE9⟩
              by_cases x6 : 0 < cmpB xs bs
              · go_wp2
                go_ret
                exact ⟨rfl, hE2.trans (hE8.trans hE9)⟩
              · have x7 : cmpB xs bs ≤ 0 := by omega
                clear x6
                exact (HL.out x4 (gt_iff.1 x5) x7).elim
            · have x6 : cmpB xs us ≤ 0 := by omega
              clear x5
              go_wp2
              go_ret
              exact ⟨rfl, hE2.trans hE8⟩
      · have y4 : 1 ≤ bs.length := by omega
        have y5 : bs.length ≤ 24 := by omega
        clear y1 y2
        go_wp2_with fail
        refine (scmp_any (ha.ext hE2) (hb.ext hE2) rfl rfl).mono ?_
        rintro e w6 ⟨rfl, hE6⟩
        by_cases y6 : cmpB us bs < 0
        · skip
          exact (HK.out y5 (lt_iff.1 y6)).elim
        · have y7 : 0 ≤ cmpB us bs := by omega
          clear y6
          have e6 := hE2.trans hE6
          by_cases x1 : xs.length < 1
          · go_wp2
            go_ret
            exact ⟨rfl, e6⟩
          · by_cases x2 : 24 < xs.length
            · go_wp2
              go_ret
              exact ⟨rfl, e6⟩
            · have x3 : 1 ≤ xs.length := by omega
              have x4 : xs.length ≤ 24 := by omega
              clear x1 x2
              go_wp2_with fail
              refine (scmp_any (hx.ext e6) (ha.ext e6) rfl rfl).mono ?_
              rintro e w8 ⟨rfl, hE8⟩
              by_cases x5 : 0 < cmpB xs us
              · go_wp2_with fail
                refine (scmp_any ((hx.ext e6).ext hE8) ((hb.ext e6).ext hE8) rfl rfl).mono ?_
                rintro e w9 ⟨rfl, hE9⟩
                by_cases x6 : 0 < cmpB xs bs
                · go_wp2
                  go_ret
                  exact ⟨rfl, e6.trans (hE8.trans hE9)⟩
                · have x7 : cmpB xs bs ≤ 0 := by omega
                  clear x6
                  exact (HL.out x4 (gt_iff.1 x5) x7).elim
              · have x6 : cmpB xs us ≤ 0 := by omega
                clear x5
                go_wp2
                go_ret
                exact ⟨rfl, e6.trans hE8⟩
  | some k =>
    have hk : betwK us bs = k := by unfold betwK; rw [hq]; rfl
    rw [hk] at ho2 ⊢
    obtain ⟨g1, g2, g3, g4, g5⟩ := betwB_some hq
    have HL := Lib.hid (show xs.length ≤ 24 → LtB us xs → cmpB xs bs ≤ 0 → (k.length < xs.length ∨ (xs.length = k.length ∧ LeB k xs)) from fun h1 h2 h3 => by
      obtain ⟨q, hq2, hr⟩ := betwB_least h1 h2 h3
      rw [hq] at hq2
      injection hq2 with hq2
      subst hq2
      exact hr)
    have sk := ho2.sl (by omega)
    have hc1 := gt_one g3
    have hc2 : cmpB k bs ≤ 0 := g4
    have g6 : k.length ≤ comB us bs + 1 := by omega
    clear hq hk ho2 hE1 g3 g4 g5
    simp only [Option.isSome_some]
    have hne : ¬ k = [] := List.length_pos_iff.1 g1
    go_wp2_with fail
    refine (scmp_any sk (ha.ext hE2) rfl rfl).mono ?_
    rintro e w3 ⟨rfl, hE3⟩
    rw [hc1]
    replace sk := sk.ext hE3
    replace hE3 := hE2.trans hE3
    go_wp2_with fail
    refine (scmp_any sk (hb.ext hE3) rfl rfl).mono ?_
    rintro e w4 ⟨rfl, hE4⟩
    have hc3 : (cmpB k bs == 1) = false := by simp; omega
    replace sk := sk.ext hE4
    replace hE4 := hE3.trans hE4
    by_cases y1 : bs.length < 1
    · by_cases x1 : xs.length < 1
      · go_wp2
        go_ret
        exact ⟨rfl, hE4⟩
      · by_cases x2 : 24 < xs.length
        · go_wp2
          go_ret
          exact ⟨rfl, hE4⟩
        · have x3 : 1 ≤ xs.length := by omega
          have x4 : xs.length ≤ 24 := by omega
          clear x1 x2
          go_wp2_with fail
          refine (scmp_any (hx.ext hE4) (ha.ext hE4) rfl rfl).mono ?_
          rintro e w8 ⟨rfl, hE8⟩
          by_cases x5 : 0 < cmpB xs us
          · go_wp2_with fail
            refine (scmp_any ((hx.ext hE4).ext hE8) ((hb.ext hE4).ext hE8) rfl rfl).mono ?_
            rintro e w9 ⟨rfl, hE9⟩
            by_cases x6 : 0 < cmpB xs bs
            · go_wp2
              go_ret
              exact ⟨rfl, hE4.trans (hE8.trans hE9)⟩
            · have x7 : cmpB xs bs ≤ 0 := by omega
              clear x6
              have hlst := HL.out x4 (gt_iff.1 x5) x7
              have e9 := hE4.trans (hE8.trans hE9)
              by_cases x8 : k.length < xs.length
              · go_wp2
                go_ret
                exact ⟨rfl, e9⟩
              · have x9 : xs.length ≤ k.length := by omega
                have x10 : k.length ≤ xs.length := by omega
                have hge := ge_iff.2 (hlst.resolve_left x8).2
                clear x8 hlst
                have s9 := (sk.ext hE8).ext hE9
                go_wp2_with fail
                refine (scmp_any (hx.ext e9) s9 rfl rfl).mono ?_
                rintro e w99 ⟨rfl, hE99⟩
                go_wp2
                go_ret
                exact ⟨ret_bool (by first | rfl | (simp; exact hge)), e9.trans hE99⟩
          · have x6 : cmpB xs us ≤ 0 := by omega
            clear x5
            go_wp2
            go_ret
            exact ⟨rfl, hE4.trans hE8⟩
    · by_cases y2 : 24 < bs.length
      · by_cases x1 : xs.length < 1
        · go_wp2
          go_ret
          exact ⟨rfl, hE4⟩
        · by_cases x2 : 24 < xs.length
          · go_wp2
            go_ret
            exact ⟨rfl, hE4⟩
          · have x3 : 1 ≤ xs.length := by omega
            have x4 : xs.length ≤ 24 := by omega
            clear x1 x2
            go_wp2_with fail
            refine (scmp_any (hx.ext hE4) (ha.ext hE4) rfl rfl).mono ?_
            rintro e w8 ⟨rfl, hE8⟩
            by_cases x5 : 0 < cmpB xs us
            · go_wp2_with fail
              refine (scmp_any ((hx.ext hE4).ext hE8) ((hb.ext hE4).ext hE8) rfl rfl).mono ?_
              rintro e w9 ⟨rfl, hE9⟩
              by_cases x6 : 0 < cmpB xs bs
              · go_wp2
                go_ret
                exact ⟨rfl, hE4.trans (hE8.trans hE9)⟩
              · have x7 : cmpB xs bs ≤ 0 := by omega
                clear x6
                have hlst := HL.out x4 (gt_iff.1 x5) x7
                have e9 := hE4.trans (hE8.trans hE9)
                by_cases x8 : k.length < xs.length
                · go_wp2
                  go_ret
                  exact ⟨rfl, e9⟩
                · have x9 : xs.length ≤ k.length := by omega
                  have x10 : k.length ≤ xs.length := by omega
                  have hge := ge_iff.2 (hlst.resolve_left x8).2
                  clear x8 hlst
                  have s9 := (sk.ext hE8).ext hE9
                  go_wp2_with fail
                  refine (scmp_any (hx.ext e9) s9 rfl rfl).mono ?_
                  rintro e w99 ⟨rfl, hE99⟩
                  go_wp2
                  go_ret
                  exact ⟨ret_bool (by first | rfl | (simp; exact hge)), e9.trans hE99⟩
            · have x6 : cmpB xs us ≤ 0 := by omega
              clear x5
              go_wp2
              go_ret
              exact ⟨rfl, hE4.trans hE8⟩
      · have y4 : 1 ≤ bs.length := by omega
        have y5 : bs.length ≤ 24 := by omega
        clear y1 y2
        go_wp2_with fail
        refine (scmp_any (ha.ext hE4) (hb.ext hE4) rfl rfl).mono ?_
        rintro e w6 ⟨rfl, hE6⟩
        by_cases y6 : cmpB us bs < 0
        · skip
          go_wp2_with fail
          refine (common_any ((ha.ext hE4).ext hE6) ((hb.ext hE4).ext hE6) rfl rfl).mono ?_
          rintro e w7 ⟨rfl, hE7⟩
          have e7 := hE4.trans (hE6.trans hE7)
          replace sk := (sk.ext hE6).ext hE7
          by_cases x1 : xs.length < 1
          · go_wp2
            go_ret
            exact ⟨rfl, e7⟩
          · by_cases x2 : 24 < xs.length
            · go_wp2
              go_ret
              exact ⟨rfl, e7⟩
            · have x3 : 1 ≤ xs.length := by omega
              have x4 : xs.length ≤ 24 := by omega
              clear x1 x2
              go_wp2_with fail
              refine (scmp_any (hx.ext e7) (ha.ext e7) rfl rfl).mono ?_
              rintro e w8 ⟨rfl, hE8⟩
              by_cases x5 : 0 < cmpB xs us
              · go_wp2_with fail
                refine (scmp_any ((hx.ext e7).ext hE8) ((hb.ext e7).ext hE8) rfl rfl).mono ?_
                rintro e w9 ⟨rfl, hE9⟩
                by_cases x6 : 0 < cmpB xs bs
                · go_wp2
                  go_ret
                  exact ⟨rfl, e7.trans (hE8.trans hE9)⟩
                · have x7 : cmpB xs bs ≤ 0 := by omega
                  clear x6
                  have hlst := HL.out x4 (gt_iff.1 x5) x7
                  have e9 := e7.trans (hE8.trans hE9)
                  by_cases x8 : k.length < xs.length
                  · go_wp2
                    go_ret
                    exact ⟨rfl, e9⟩
                  · have x9 : xs.length ≤ k.length := by omega
                    have x10 : k.length ≤ xs.length := by omega
                    have hge := ge_iff.2 (hlst.resolve_left x8).2
                    clear x8 hlst
                    have s9 := (sk.ext hE8).ext hE9
                    go_wp2_with fail
                    refine (scmp_any (hx.ext e9) s9 rfl rfl).mono ?_
                    rintro e w99 ⟨rfl, hE99⟩
                    go_wp2
                    go_ret
                    exact ⟨ret_bool (by first | rfl | (simp; exact hge)), e9.trans hE99⟩
              · have x6 : cmpB xs us ≤ 0 := by omega
                clear x5
                go_wp2
                go_ret
                exact ⟨rfl, e7.trans hE8⟩
        · have y7 : 0 ≤ cmpB us bs := by omega
          clear y6
          have e6 := hE4.trans hE6
          replace sk := sk.ext hE6
          by_cases x1 : xs.length < 1
          · go_wp2
            go_ret
            exact ⟨rfl, e6⟩
          · by_cases x2 : 24 < xs.length
            · go_wp2
              go_ret
              exact ⟨rfl, e6⟩
            · have x3 : 1 ≤ xs.length := by omega
              have x4 : xs.length ≤ 24 := by omega
              clear x1 x2
              go_wp2_with fail
              refine (scmp_any (hx.ext e6) (ha.ext e6) rfl rfl).mono ?_
              rintro e w8 ⟨rfl, hE8⟩
              by_cases x5 : 0 < cmpB xs us
              · go_wp2_with fail
                refine (scmp_any ((hx.ext e6).ext hE8) ((hb.ext e6).ext hE8) rfl rfl).mono ?_
                rintro e w9 ⟨rfl, hE9⟩
                by_cases x6 : 0 < cmpB xs bs
                · go_wp2
                  go_ret
                  exact ⟨rfl, e6.trans (hE8.trans hE9)⟩
                · have x7 : cmpB xs bs ≤ 0 := by omega
                  clear x6
                  have hlst := HL.out x4 (gt_iff.1 x5) x7
                  have e9 := e6.trans (hE8.trans hE9)
                  by_cases x8 : k.length < xs.length
                  · go_wp2
                    go_ret
                    exact ⟨rfl, e9⟩
                  · have x9 : xs.length ≤ k.length := by omega
                    have x10 : k.length ≤ xs.length := by omega
                    have hge := ge_iff.2 (hlst.resolve_left x8).2
                    clear x8 hlst
                    have s9 := (sk.ext hE8).ext hE9
                    go_wp2_with fail
                    refine (scmp_any (hx.ext e9) s9 rfl rfl).mono ?_
                    rintro e w99 ⟨rfl, hE99⟩
                    go_wp2
                    go_ret
                    exact ⟨ret_bool (by first | rfl | (simp; exact hge)), e9.trans hE99⟩
              · have x6 : cmpB xs us ≤ 0 := by omega
                clear x5
                go_wp2
                go_ret
                exact ⟨rfl, e6.trans hE8⟩
set_option maxRecDepth 100000 in
theorem lifted (os : Os) (started : os.Started) (H : Type) (enc : TypeId × Value → H) :
    ReturnsInHanded {} Try.checked os 7 .any (Rows.spanShortestSpec.pre6 enc Try.prog Try.f7 Rows.spanShortestRow.domain false) (Rows.spanShortestSpec.post enc Try.prog Try.f7 false true false false) := by
  refine returnsInHanded_of_change_sized (C := Try.checked) own' started (by kernel_rfl) Try.func7
    (ChangeSpec.witness6 (enc := enc) (C := Try.checked) false ⟨#[], #[.slice none 0 0, .slice none 0 0, .slice none 0 0], []⟩ 8 (by kernel_rfl) (by kernel_rfl) (by kernel_rfl) (by kernel_rfl)) ?_
  intro W base args ds gs before hval0 hW hcnd hsz0 _
  have hval : ∀ (j : Nat) t v, Try.f7.params[j]? = some t → args[j]? = some v → Value.okWide Try.prog W .any base t v := hval0
  have hsz : (DataW.weightsEach Try.prog (Try.f7.params.toList ++ Rows.spanShortestSpec.plain.varTypes Try.prog) (ds ++ gs)).all (· ≤ reachBytes) = true := hsz0
  have hW' := hW
  obtain ⟨p, q, hA0, hV, rfl, hfz, hnd⟩ := hW
  have hA : DataW.TrodAll enc Try.prog W 0 (fun _ => true) true Try.f7.params.toList args.toList ds p := hA0
  rw [Try.params7] at hA hval hsz
  obtain ⟨v0, vs0, d0, ds0, p0, q0, hargs, rfl, rfl, h0, r0⟩ := trodAll_cons hA
  obtain ⟨v1, vs1, d1, ds1, p1, q1, rfl, rfl, rfl, h1, r1⟩ := trodAll_cons r0
  obtain ⟨v2, vs2, d2, ds2, p2, q2, rfl, rfl, rfl, h2, r2⟩ := trodAll_cons r1
  obtain ⟨rfl, rfl, rfl⟩ := trodAll_nil r2
  obtain rfl : args = #[v0, v1, v2] := by cases args; simp_all
  obtain ⟨rfl, rfl⟩ := trodVars_none hV
  obtain ⟨a0, len0, cap0, rfl⟩ := okWide_slice Try.underlying22 (hval 0 22 v0 rfl rfl)
  have lt0 : ∀ x ∈ p0, x.block < W.heap.size := by obtain ⟨m, hm⟩ := h0; exact DataW.trod_lt m _ _ _ hm
  obtain ⟨b0, rfl, rd0, le0, _, sz0⟩ := sl_of_trod rfl h0
  have s0 : Sl W a0 cap0 b0 := Sl.of_size rd0 le0 (by
    rcases sz0 with ⟨_, h⟩ | ⟨el, sp, he, h⟩
    · rw [h]; exact Nat.zero_le _
    · have := sized_slice hsz (j := 0) (t := 22) (e := 5) rfl (by rw [he]; rfl) Try.underlying22
      rwa [bytesU8, Nat.mul_one, h] at this)
  obtain ⟨a1, len1, cap1, rfl⟩ := okWide_slice Try.underlying22 (hval 1 22 v1 rfl rfl)
  have lt1 : ∀ x ∈ p1, x.block < W.heap.size := by obtain ⟨m, hm⟩ := h1; exact DataW.trod_lt m _ _ _ hm
  obtain ⟨b1, rfl, rd1, le1, _, sz1⟩ := sl_of_trod rfl h1
  have s1 : Sl W a1 cap1 b1 := Sl.of_size rd1 le1 (by
    rcases sz1 with ⟨_, h⟩ | ⟨el, sp, he, h⟩
    · rw [h]; exact Nat.zero_le _
    · have := sized_slice hsz (j := 1) (t := 22) (e := 5) rfl (by rw [he]; rfl) Try.underlying22
      rwa [bytesU8, Nat.mul_one, h] at this)
  obtain ⟨a2, len2, cap2, rfl⟩ := okWide_slice Try.underlying22 (hval 2 22 v2 rfl rfl)
  have lt2 : ∀ x ∈ p2, x.block < W.heap.size := by obtain ⟨m, hm⟩ := h2; exact DataW.trod_lt m _ _ _ hm
  obtain ⟨b2, rfl, rd2, le2, _, sz2⟩ := sl_of_trod rfl h2
  have s2 : Sl W a2 cap2 b2 := Sl.of_size rd2 le2 (by
    rcases sz2 with ⟨_, h⟩ | ⟨el, sp, he, h⟩
    · rw [h]; exact Nat.zero_le _
    · have := sized_slice hsz (j := 2) (t := 22) (e := 5) rfl (by rw [he]; rfl) Try.underlying22
      rwa [bytesU8, Nat.mul_one, h] at this)
  clear hA0 hval0
  refine (walk s0 s1 s2).mono fun e W' ⟨he, bel⟩ => ?_
  subst he
  exact ⟨_, rfl, _, _, _, [], _, [], hW', trodAll_mk1 (shut_bool Try.underlying4 _), (trodAll_cons_mk (Below.trod laidOut' (by kernel_rfl) (of_decide_eq_true (by kernel_rfl)) h0 bel lt0) (trodAll_cons_mk (Below.trod laidOut' (by kernel_rfl) (of_decide_eq_true (by kernel_rfl)) h1 bel lt1) (trodAll_cons_mk (Below.trod laidOut' (by kernel_rfl) (of_decide_eq_true (by kernel_rfl)) h2 bel lt2) trodAll_mk0))), rfl, bel.frame _, fun h => by cases h⟩
theorem over : Rows.spanShortestRow.holds Try.pinned (OpenSpec.ofChange Rows.spanShortestSpec) :=
  OpenClaim.holds_of_wide 7 Try.f7 rfl rfl rfl rfl rfl rfl rfl ⟨rfl, rfl, rfl, rfl, rfl⟩ rfl rfl rfl rfl rfl (by kernel_rfl) Try.func7 (by kernel_rfl)
    (of_decide_eq_true (by kernel_rfl)) (by unfold Func.isWrapper; first | (rw [if_pos (by decide +kernel)]; kernel_rfl) | (rw [if_neg (by decide +kernel)]; exact ⟨rfl, rfl⟩))
    (fun os started H enc _ => lifted os started H enc)
/-- The statement. -/
theorem proved : Rows.SpanShortestSaid := over
#print axioms proved
end Go.Proofs.Ytijlaknfagpglaa.spanShortest
