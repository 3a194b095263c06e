/- The walk of span.Cover over any row of ranges. No condition but sizes. -/
import Derived.Test.YtijlaknfagpglaaCovm
import Derived.Test.YtijlaknfagpglaaMild
import Derived.Test.YtijlaknfagpglaaMildg
import Derived.Lib.SmallJoins
namespace Go.Proofs.Ytijlaknfagpglaa
open Go.RowKit Go.Proofs Go.Sort
set_option linter.unusedVariables false
set_option linter.unusedSimpArgs false
set_option maxHeartbeats 4000000 in
theorem insert_nil {w : World} :
    Calls Try.prog 75 #[.slice none 0 0, .int .i64 0, .int .i64 0, .func (.func 54) #[] #[]] w fun e w' => e = .returned (.tuple #[]) ∧ Ext w w' := by
  go_enter Try.func75, Try.ntmps75
  go_wp2
  go_loopw [8] (fun ii wr => ii = .int .i64 1 ∧ Ext w wr) (fun ii _ => 0)
  case atStart => exact ⟨by go_num, Below.refl _ _⟩
  case round =>
    obtain ⟨rfl, hE⟩ := hrel
    go_wp2
    exact bodyPost_end (by simp [results, Try.results75]) rfl ⟨rfl, hE⟩
set_option maxHeartbeats 4000000 in
theorem stable_nil {w : World} :
    Calls Try.prog 70 #[.slice none 0 0, .int .i64 0, .func (.func 54) #[] #[]] w fun e w' => e = .returned (.tuple #[]) ∧ Ext w w' := by
  go_enter Try.func70, Try.ntmps70
  go_wp2
  go_loopw [7, 8] (fun aa bb wr => aa = .int .i64 0 ∧ bb = .int .i64 20 ∧ Ext w wr) (fun aa bb _ => 0)
  case atStart => exact ⟨rfl, rfl, Below.refl _ _⟩
  case round =>
    obtain ⟨rfl, rfl, hE⟩ := hrel
    have hc := insert_nil (w := wr)
    go_wp2_with fail
    refine hc.mono ?_
    rintro e w2 ⟨rfl, hE2⟩
    have hE3 := hE.trans hE2
    go_wp2
    go_loopw [6] (fun kk wr => kk = .int .i64 20 ∧ Ext w wr) (fun kk _ => 0)
    case atStart => exact ⟨rfl, hE3⟩
    case round =>
      clear hE3
      rename World => wq
      obtain ⟨rfl, hE⟩ := hrel
      go_wp2
      exact bodyPost_end (by simp [results, Try.results70]) rfl ⟨rfl, hE⟩
set_option maxHeartbeats 4000000 in
theorem sortStable_nil {w : World} :
    Calls Try.prog 53 #[.slice none 0 0, .func (.func 54) #[] #[]] w fun e w' => e = .returned (.tuple #[]) ∧ Ext w w' := by
  go_enter Try.func53, Try.ntmps53
  have hc := stable_nil (w := w)
  go_wp2_with fail
  refine hc.mono ?_
  rintro e w2 ⟨rfl, hE2⟩
  go_wp2
  exact bodyPost_end (by simp [results, Try.results53]) rfl ⟨rfl, hE2⟩
set_option maxRecDepth 100000 in
set_option maxHeartbeats 8000000 in
theorem cover_any {A : Option Addr} {cap n : Nat} {rs : List Fr} {w : World} (h : RowR w A rs) (hn : n = rs.length) (hsz : n ≤ 1048576) :
    Calls Try.prog 28 #[.slice A n cap] w fun e w' => ∃ v os, e = .returned v ∧ w'.ownsRow w.heap.size 32 3 v os.length (os.flatMap c3) ∧ OwnL w.heap.size w' os ∧ CovOf (rs.map rg) (os.map rg) ∧ os.length ≤ n ∧ Ext w w' := by
  obtain ⟨i0, hti, hz0, hz1, hz2⟩ := info_parts infoRg
  have HN := Lib.hid hn
  clear hn
  go_enter Try.func28, Try.ntmps28
  go_wp2
  go_loopw [3, 15] (fun v i wr => Ext w wr ∧ ∃ (k : Nat) (fs : List Fr), k ≤ n ∧ fs.length ≤ k ∧ i = .int .i64 k ∧ wr.ownsRow w.heap.size 32 3 v fs.length (fs.flatMap c3) ∧ Hid (OwnL w.heap.size wr fs) ∧ Hid (fs.map rg = ((rs.take k).map rg).filterMap formB)) (fun _ i _ => n - (intOf i).toNat)
  case atStart => exact ⟨Below.refl _ _, 0, [], Nat.zero_le _, Nat.le_refl _, rfl, owned_nil _ _ _ _, Lib.hid OwnL.nil, Lib.hid rfl⟩
  case round =>
    obtain ⟨hE, k, fs, hkn, hfk, rfl, ho, HO, HM⟩ := hrel
    by_cases hlt : k < n
    · have hki : (k : Int) < (n : Int) := by omega
      obtain ⟨g, o, rfl, hrd⟩ := h.rd (by have := HN.out; omega)
      obtain ⟨f, hf⟩ : ∃ f, rs[k]? = some f := ⟨_, List.getElem?_eq_getElem (by have := HN.out; omega)⟩
      have k1 := (hrd k f hf).ext hE
      obtain ⟨hl1, hl2⟩ := h.ls f (List.mem_of_getElem? hf)
      have HF := Lib.hid hf
      clear hf hrd
      obtain ⟨lA, lc, lo, hA, hc, hi, op⟩ := f
      have a0 := k1.c0
      have a1 := k1.c1
      have a2 := k1.c2
      dsimp only at a0 a1 a2 hl1 hl2
      go_wp2_with (refine wpList_store_box rfl 32 _ _ rfl wr.heap.size _ rfl rfl 32 _ (heap_alloc_new _ _) (by kernel_rfl) rfl (by simp [Value.oneCell']) ?_; intro w2 hbw2 hgw2; have hE2 := ext_only (ext_alloc wr _) hgw2 (Nat.le_refl _); have f0 := cell_of_row w2 wr.heap.size 0 _ _ _ hbw2; have f1 := cell_of_row w2 wr.heap.size 1 _ _ _ hbw2; have f2 := cell_of_row w2 wr.heap.size 2 _ _ _ hbw2; simp at f0 f1 f2)
      have hEa := hE.trans hE2
      refine (form_any (hl1.ext hEa) (hl2.ext hEa)).mono ?_
      rintro e w3 ⟨A9, c9, B9, d9, r, hr, rfl, hR, hE3⟩
      obtain ⟨fo, hfo⟩ : ∃ q, formB ⟨lo, hi, op⟩ = q := ⟨_, rfl⟩
      rw [hfo] at hr ⊢
      have hEb := hEa.trans hE3
      have hE4s := hE2.trans hE3
      have HTK := Lib.hid (show (rs.take (k + 1)).map rg = (rs.take k).map rg ++ [⟨lo, hi, op⟩] by rw [List.take_add_one, HF.out]; simp)
      cases fo with
      | none =>
        simp only [Option.isSome_none]
        have HM2 := Lib.hid (show fs.map rg = ((rs.take (k + 1)).map rg).filterMap formB by rw [HTK.out, List.filterMap_append, ← HM.out]; simp [hfo])
        clear hfo
        go_wp2_with (refine wpList_store_box rfl 32 _ _ rfl w3.heap.size _ rfl rfl 32 _ (heap_alloc_new _ _) (by kernel_rfl) rfl (by simp [Value.oneCell']) ?_; intro w4 hbw4 hgw4; have hE4 := ext_only (ext_alloc w3 _) hgw4 (Nat.le_refl _))
        have ho4 := ownsRow_ext ho (hE4s.trans hE4)
        have HO4 := Lib.hid (HO.out.ext (hE4s.trans hE4))
        go_wp2
        go_roundw
        case rel => exact ⟨hEb.trans hE4, k + 1, fs, by omega, by omega, by go_num, ho4, HO4, HM2⟩
        case measure => simp [intOf]; omega
      | some r9 =>
        simp only [Option.isSome_some]
        obtain rfl : r = r9 := hr
        have HM2 := Lib.hid (show (fs ++ [(⟨A9, c9, r.lo, B9, d9, r.hi, r.op⟩ : Fr)]).map rg = ((rs.take (k + 1)).map rg).filterMap formB by rw [HTK.out, List.filterMap_append, ← HM.out]; simp [hfo])
        have hok := formB_ok hfo
        clear hfo
        have oA := (hR.1.sl (Nat.le_trans (isKeyB_iff.1 hok.key).2 (by omega)))
        go_wp2_with (first | (refine wpList_store_box rfl 32 _ _ rfl w3.heap.size _ rfl rfl 32 _ (heap_alloc_new _ _) (by kernel_rfl) rfl (by simp [Value.oneCell']) ?_; intro w4 hbw4 hgw4; have hE4 := ext_only (ext_alloc w3 _) hgw4 (Nat.le_refl _); have ho4 := ownsRow_ext ho (hE4s.trans hE4); have h0 := cell_of_row w4 w3.heap.size 0 _ _ _ hbw4; have h1 := cell_of_row w4 w3.heap.size 1 _ _ _ hbw4; have h2 := cell_of_row w4 w3.heap.size 2 _ _ _ hbw4; simp at h0 h1 h2) | (at_builtin; refine wpList_append_own _ rfl _ _ 37 rfl w.heap.size 32 i0 (.agg #[.slice none 0 0, .slice none 0 0, .bool false]) 3 56 Try.underlying37 hti hz0 hz1 hz2 rfl (by decide) _ _ _ rfl (World.ownsRow.alloc ho4 _) ⟨w4.heap.size, 0, none⟩ 1 1 (c3 ⟨A9, c9, r.lo, B9, d9, r.hi, r.op⟩) rfl rfl (cells_new _ _ _) (by simp [Value.oneCell']) (by simp [maxLen] <;> omega) (by omega) (by have := (hEb.trans hE4).size; simp; omega) ?_; intro v' w5 hown5 hgrow5 _))
        have hEc := hEb.trans hE4
        have hEd := ext_append hEc ho4 hgrow5
        have HO5 := Lib.hid ((((HO.out.snoc hE2.size (hEa.size) hE4s hR hok).ext hE4).ext (ext_alloc w4 _)).row (World.ownsRow.alloc ho4 _) hgrow5)
        have ho5 := snoc_row hown5
        clear hgrow5 hown5
        go_wp2
        go_roundw
        case rel => exact ⟨hEd, k + 1, fs ++ [⟨A9, c9, r.lo, B9, d9, r.hi, r.op⟩], by omega, by simp; omega, by go_num, ho5, HO5, HM2⟩
        case measure => simp [intOf]; omega
    · have hki : ¬ (k : Int) < (n : Int) := by omega
      have HM2 := Lib.hid (show fs.map rg = (rs.map rg).filterMap formB by rw [HM.out, List.take_of_length_le (by have := HN.out; omega)])
      have hfn : fs.length ≤ n := by omega
      clear HM hlt hfk h
      rcases Joins.ownsRow_forms ho with ⟨hv, h0⟩ | ⟨g, capF, hv⟩
      · subst hv
        obtain rfl : fs = [] := List.eq_nil_of_length_eq_zero h0
        have hc := sortStable_nil (w := wr)
        go_wp2_with fail
        refine hc.mono ?_
        rintro e w6 ⟨rfl, hE6⟩
        have HC := Lib.hid (show CovOf (rs.map rg) ([].map rg) from (Merged.nil).cov (by rw [← HM2.out]; exact List.Perm.refl _))
        have hE7 := hE.trans hE6
        clear ho HO hc HM2 hE hE6 hki hkn
        go_wp2
        go_loopw [8, 34] (fun v i wr => v = .slice none 0 0 ∧ i = .int .i64 0 ∧ Ext w wr) (fun _ i _ => 0)
        case atStart => exact ⟨rfl, rfl, hE7⟩
        case round =>
          clear hE7
          obtain ⟨rfl, rfl, hE⟩ := hrel
          go_wp2
          go_ret
          exact ⟨_, [], rfl, owned_nil _ _ _ _, OwnL.nil, HC.out, by simp, hE⟩
      · subst hv
        have hsr := HO.out.sr ho
        have hc := sortStable_any hsr (by simp; omega)
        have HSZ := Lib.hid (show fs.toArray.size = fs.length by simp)
        rw [HSZ.out] at hc
        go_wp2_with fail
        refine hc.mono ?_
        rintro e w6 ⟨rfl, d6, ⟨g1, g2⟩, hS6, hX6⟩
        obtain ⟨gs, hgs⟩ : ∃ q, d6.toList = q := ⟨_, rfl⟩
        have hgl : gs.length = fs.length := by rw [← hgs]; have := g1.1; simp at this ⊢; exact this
        have hpm : gs.Perm fs := by rw [← hgs]; have := perm_list (d := fs.toArray) (d' := d6) (by rw [HSZ.out]; exact g1); simpa using this
        have hOg : OwnL w.heap.size w6 gs := (HO.out.dg hX6 ho).perm hpm
        have hgw := (World.ownsRow.lt ho g rfl).1
        have hE6 : Ext w w6 := hX6.to_ext hE (fun k o hk => by rw [show k = g from hk]; exact hgw)
        have hrow : w6.ownsRow w.heap.size 32 3 (.slice (some ⟨g, 0, none⟩) gs.length capF) gs.length (gs.flatMap c3) := by
          have h9 := hS6.own
          rw [hgs] at h9
          have e1 : d6.size = gs.length := by rw [← hgs]; simp
          rw [e1] at h9
          exact h9
        have HLE := Lib.hid (show ∀ (i : Nat) (f : Fr), gs[i]? = some f → ∀ s ∈ (gs.take i).map rg, LeB s.lo (rg f).lo by
          have e1 : d6.size = fs.toArray.size := g1.1
          rw [← hgs]
          intro i f hf
          exact seen_le (by rw [e1, HSZ.out]; exact g2) hf)
        have HPM := Lib.hid (show (gs.map rg).Perm ((rs.map rg).filterMap formB) by rw [← HM2.out]; exact hpm.map rg)
        have HOG := Lib.hid hOg
        have HROW := Lib.hid hrow
        obtain ⟨m, hm⟩ : ∃ q, fs.length = q := ⟨_, rfl⟩
        rw [hm] at hgl hfn ⊢
        have HGL := Lib.hid hgl
        clear hc hsr g1 g2 hS6 hX6 hgs hpm hOg hrow HO HM2 HSZ ho hE hki hkn hgl
        clear hm
        go_wp2
        go_loopw [8, 34] (fun v i wr => Ext w6 wr ∧ ∃ (k : Nat) (os : List Fr), k ≤ m ∧ os.length ≤ k ∧ i = .int .i64 k ∧ wr.ownsRow w6.heap.size 32 3 v os.length (os.flatMap c3) ∧ Hid (OwnL w.heap.size w6 (os ++ gs.drop k)) ∧ Hid (Merged ((gs.take k).map rg) (os.map rg))) (fun _ i _ => m - (intOf i).toNat)
        case atStart => exact ⟨Below.refl _ _, 0, [], Nat.zero_le _, Nat.le_refl _, rfl, owned_nil _ _ _ _, HOG, Lib.hid Merged.nil⟩
        case round =>
          clear hgw
          rename World => wq
          obtain ⟨hE8, k, os, hkm, hok, rfl, ho, HO, HM⟩ := hrel
          by_cases hlt : k < m
          · have hki : (k : Int) < (m : Int) := by omega
            obtain ⟨f, hf⟩ : ∃ f, gs[k]? = some f := ⟨_, List.getElem?_eq_getElem (by have := HGL.out; omega)⟩
            have u1 := (two_at HROW.out hf).ext hE8
            have HDR := Lib.hid (show gs.drop k = f :: gs.drop (k + 1) by
              obtain ⟨h1, h2⟩ := List.getElem?_eq_some_iff.1 hf
              rw [← h2]
              exact List.drop_eq_getElem_cons h1)
            have HTK := Lib.hid (show (gs.take (k + 1)).map rg = (gs.take k).map rg ++ [rg f] by rw [List.take_add_one, hf]; simp)
            have HLF := Lib.hid (HLE.out k f hf)
            replace HO := Lib.hid (show OwnL w.heap.size w6 (os ++ f :: gs.drop (k + 1)) by rw [← HDR.out]; exact HO.out)
            have hfm : f ∈ os ++ f :: gs.drop (k + 1) := by simp
            have HOKF := Lib.hid (HO.out.ok f hfm)
            obtain ⟨sF0, sF1⟩ := HO.out.sl hfm
            clear hf hfm
            obtain ⟨flA, flc, flo, fhA, fhc, fhi, fop⟩ := f
            have a0 := u1.c0
            have a1 := u1.c1
            have a2 := u1.c2
            dsimp only at a0 a1 a2 sF0 sF1
            rcases (show os = [] ∨ ∃ L b, os = L ++ [b] by
              rcases List.eq_nil_or_concat os with h | ⟨L, b, h⟩
              · exact .inl h
              · exact .inr ⟨L, b, by rw [h, List.concat_eq_append]⟩) with rfl | ⟨os, x, rfl⟩
            · obtain ⟨Av, Cv, rfl⟩ := slice_of_own ho
              have HLN := Lib.hid hok
              go_wp2_with (refine wpList_store_box rfl 32 _ _ rfl wq.heap.size _ rfl rfl 32 _ (heap_alloc_new _ _) (by kernel_rfl) rfl (by simp [Value.oneCell']) ?_; intro w9 hbw9 hgw9; have hE9 := ext_only (ext_alloc wq _) hgw9 (Nat.le_refl _))
              refine wp_region_mild 20 (fun _ => none) (by kernel_rfl) (by kernel_rfl) (fun W N hW hN => ?_)
              have hEW := (hE8.trans hE9).trans hW
              simp only [List.take_succ_cons, List.take_zero]
              repeat (first | (apply wpM_one; (case hg => rfl); (case hsp => rfl); (case hv => (intro w' hw'; go_simp; exact rfl)); simp only [Act.put, List.setIfInBounds_toArray, List.set_cons_succ, List.set_cons_zero]; try simp only [wrap_zero]) | (apply wpM_oneG; (case hw => rfl); (case hsp => rfl); (case hv => (intro w' hw'; go_simp; exact rfl)); simp only [Act.put, List.setIfInBounds_toArray, List.set_cons_succ, List.set_cons_zero]; try simp only [wrap_zero]) | (apply wpM_pass; (case hw => rfl); simp only [Act.put, List.setIfInBounds_toArray, List.set_cons_succ, List.set_cons_zero]; try simp only [wrap_zero]))
              apply wpM_nil
              apply hN
              intro w10 hE10 hK
              clear hK hN
              have hb10 := (hW.trans hE10).blk hbw9
              have hE11 := (hE9.trans hW).trans hE10
              have ho4 := ownsRow_ext ho hE11
              have hEc := hE8.trans hE11
              have h0 := cell_of_row w10 wq.heap.size 0 _ _ _ hb10
              have h1 := cell_of_row w10 wq.heap.size 1 _ _ _ hb10
              have h2 := cell_of_row w10 wq.heap.size 2 _ _ _ hb10
              simp at h0 h1 h2
              go_wp2_with (at_builtin; refine wpList_append_own _ rfl _ _ 37 rfl w6.heap.size 32 i0 (.agg #[.slice none 0 0, .slice none 0 0, .bool false]) 3 56 Try.underlying37 hti hz0 hz1 hz2 rfl (by decide) _ _ _ rfl (World.ownsRow.alloc ho4 _) ⟨w10.heap.size, 0, none⟩ 1 1 (c3 ⟨flA, flc, flo, fhA, fhc, fhi, fop⟩) rfl rfl (cells_new _ _ _) (by simp [Value.oneCell']) (by simp [maxLen] <;> omega) (by omega) (by have := (hEc).size; simp; omega) ?_; intro v9 w12 hown5 hgrow5 _)
              have hEd := ext_append hEc ho4 hgrow5
              have ho5 := snoc_row (fs := []) hown5
              have HM2 := Lib.hid (show Merged ((gs.take (k + 1)).map rg) (([] ++ [(⟨flA, flc, flo, fhA, fhc, fhi, fop⟩ : Fr)]).map rg) by rw [HTK.out]; exact Merged.begin HM.out (fun s hs => by obtain ⟨t, ht, rfl⟩ := List.mem_map.1 hs; exact HOG.out.ok t (List.mem_of_mem_take ht)) HOKF.out)
              have HO2 := Lib.hid (show OwnL w.heap.size w6 ([] ++ [(⟨flA, flc, flo, fhA, fhc, fhi, fop⟩ : Fr)] ++ gs.drop (k + 1)) by rw [List.append_assoc]; exact HO.out)
              clear hgrow5 hown5
              go_wp2
              go_roundw
              case rel => exact ⟨hEd, k + 1, [] ++ [⟨flA, flc, flo, fhA, fhc, fhi, fop⟩], by omega, by have := HLN.out; simp at this ⊢ <;> omega, by go_num, ho5, HO2, HM2⟩
              case measure => simp [intOf]; omega
            · have hxm : x ∈ os ++ [x] ++ (⟨flA, flc, flo, fhA, fhc, fhi, fop⟩ : Fr) :: gs.drop (k + 1) := by simp
              have HOKX := Lib.hid (HO.out.ok x hxm)
              have sX := (HO.out.sl hxm).2
              have HLN := Lib.hid hok
              have HMX := Lib.hid (show Merged ((gs.take k).map rg) (os.map rg ++ [rg x]) by simpa using HM.out)
              obtain ⟨L, hL⟩ : ∃ q, os.length = q := ⟨_, rfl⟩
              obtain ⟨m1, hm1⟩ : ∃ q, (os ++ [x]).length = q := ⟨_, rfl⟩
              obtain ⟨go, capo, hvo, hgo, _⟩ := World.ownsRow.form ho (by simp)
              subst hvo
              have u := two_at (i := L) (f := x) ho (by rw [← hL]; simp)
              rw [hm1] at ho ⊢
              have hLm : L + 1 = m1 := by rw [← hm1, ← hL]; simp
              have hLi : (m1 : Int) - 1 = (L : Int) := by omega
              have iwL : IntKind.i64.wrap (L : Int) = (L : Int) := IntWalk.i64_in _ (by have := HLN.out; omega)
              have hLlt : L < m1 := by omega
              have hm1k : m1 ≤ k := by rw [← hm1]; exact hok
              have hL0 : ¬ (L : Int) < 0 := by omega
              have HL := Lib.hid hL
              have HM1 := Lib.hid hm1
              clear hL hm1 hxm HM hok
              obtain ⟨xlA, xlc, xlo, xhA, xhc, xhi, xop⟩ := x
              dsimp only at sX
              go_wp2_with (refine wpList_store_box rfl 32 _ _ rfl wq.heap.size _ rfl rfl 32 _ (heap_alloc_new _ _) (by kernel_rfl) rfl (by simp [Value.oneCell']) ?_; intro w9 hbw9 hgw9; have hE9 := ext_only (ext_alloc wq _) hgw9 (Nat.le_refl _))
              have p1 := u.c1
              have p2 := u.c2
              replace p1 := hE9.cell p1
              replace p2 := hE9.cell p2
              have h0 := cell_of_row w9 wq.heap.size 0 _ _ _ hbw9
              have h1 := cell_of_row w9 wq.heap.size 1 _ _ _ hbw9
              have h2 := cell_of_row w9 wq.heap.size 2 _ _ _ hbw9
              simp at h0 h1 h2
              cases xop with
              | true =>
                have HSEP := Lib.hid (show sepB ⟨xlo, xhi, true⟩ ⟨flo, fhi, fop⟩ = false by simp [sepB])
                refine wp_region_mild 20 (fun _ => none) (by kernel_rfl) (by kernel_rfl) (fun W N hW hN => ?_)
                have hEW := (hE8.trans hE9).trans hW
                have e1 : ∀ w', Ext W w' → w'.cell? ⟨go, L * 3 + 1, none⟩ = some (.slice xhA xhi.length xhc) := fun w' h => (hW.trans h).cell p1
                have e2 : ∀ w', Ext W w' → w'.cell? ⟨go, L * 3 + 2, none⟩ = some (.bool true) := fun w' h => (hW.trans h).cell p2
                have e3 : ∀ w', Ext W w' → w'.cell? ⟨wq.heap.size, 0, none⟩ = some (.slice flA flo.length flc) := fun w' h => (hW.trans h).cell h0
                simp only [List.take_succ_cons, List.take_zero]
                repeat (first | (apply wpM_one; (case hg => rfl); (case hsp => rfl); (case hv => (intro w' hw'; go_simp; exact rfl)); simp only [Act.put, List.setIfInBounds_toArray, List.set_cons_succ, List.set_cons_zero]; try simp only [wrap_zero]) | (apply wpM_oneG; (case hw => rfl); (case hsp => rfl); (case hv => (intro w' hw'; go_simp; exact rfl)); simp only [Act.put, List.setIfInBounds_toArray, List.set_cons_succ, List.set_cons_zero]; try simp only [wrap_zero]) | (apply wpM_pass; (case hw => rfl); simp only [Act.put, List.setIfInBounds_toArray, List.set_cons_succ, List.set_cons_zero]; try simp only [wrap_zero]))
                apply wpM_nil
                apply hN
                intro w10 hE10 hK
                clear hK hN e1 e2 e3
                have hE12 := hW.trans hE10
                have q1 := hE12.cell p1
                have q2 := hE12.cell p2
                have r0 := hE12.cell h0
                have r1 := hE12.cell h1
                have r2 := hE12.cell h2
                have ho2 := ownsRow_ext ho (hE9.trans hE12)
                have hE13 := hEW.trans hE10
                clear hE10 hEW hW p1 p2 h0 h1 h2
                cases fop with
                | true =>
                  have ho3 := ho2
                  have hfr1 := World.ownsRow.frozenAt ho3 (L * 3 + 1)
                  have hst1 := (World.ownsRow.stored ho3 (L * 3 + 1) (.slice none 0 0)).1
                  have hfr2 := World.ownsRow.frozenAt hst1 (L * 3 + 2)
                  have hst2 := (World.ownsRow.stored hst1 (L * 3 + 2) (.bool true)).1
                  have s2 := World.ownsRow.cellAt hst1 (L * 3 + 2) (by omega)
                  rw [List.getElem?_set_ne (by omega), ← World.ownsRow.cellAt ho3 (L * 3 + 2) (by omega), q2] at s2
                  have hEn := ext_store (p := ⟨go, L * 3 + 2, none⟩) (ext_store (p := ⟨go, L * 3 + 1, none⟩) hE13 hgo (.slice none 0 0)) hgo (.bool true)
                  have hun : uniB ⟨xlo, xhi, true⟩ ⟨flo, fhi, true⟩ = rg (uH ⟨xlA, xlc, xlo, xhA, xhc, xhi, true⟩ ⟨flA, flc, flo, fhA, fhc, fhi, true⟩ 0) := by simp [uniB, uH]
                  have hmu := HMX.out.uni HOKF.out HLF.out HSEP.out
                  rw [hun] at hmu
                  have HM2 := Lib.hid (show Merged ((gs.take (k + 1)).map rg) ((os ++ [uH ⟨xlA, xlc, xlo, xhA, xhc, xhi, true⟩ ⟨flA, flc, flo, fhA, fhc, fhi, true⟩ 0]).map rg) by rw [HTK.out]; simpa using hmu)
                  have hok9 := uniB_ok HOKX.out HOKF.out (HMX.out.lef HLF.out)
                  rw [hun] at hok9
                  have HO2 := Lib.hid (HO.out.uni 0 hok9)
                  clear hun hmu hok9
                  go_wp2
                  go_roundw
                  case rel => exact ⟨hEn, k + 1, os ++ [uH ⟨xlA, xlc, xlo, xhA, xhc, xhi, true⟩ ⟨flA, flc, flo, fhA, fhc, fhi, true⟩ 0], by omega, by have := HLN.out; simp at this ⊢ <;> omega, by go_num, (by rw [show (os ++ [uH ⟨xlA, xlc, xlo, xhA, xhc, xhi, true⟩ ⟨flA, flc, flo, fhA, fhc, fhi, true⟩ 0]).length = m1 by rw [← HM1.out]; simp]; have e9 := set2 os ⟨xlA, xlc, xlo, xhA, xhc, xhi, true⟩ ⟨flA, flc, flo, fhA, fhc, fhi, true⟩; rw [HL.out] at e9; rw [← e9]; exact hst2), HO2, HM2⟩
                  case measure => simp [intOf]; omega
                | false =>
                  go_wp2
                  refine wp_region_mild 14 (fun _ => none) (by kernel_rfl) (by kernel_rfl) (fun W N hW hN => ?_)
                  have hEW := hE13.trans hW
                  have e1 : ∀ w', Ext W w' → w'.cell? ⟨go, L * 3 + 1, none⟩ = some (.slice xhA xhi.length xhc) := fun w' h => (hW.trans h).cell q1
                  have e2 : ∀ w', Ext W w' → w'.cell? ⟨go, L * 3 + 2, none⟩ = some (.bool true) := fun w' h => (hW.trans h).cell q2
                  have e3 : ∀ w', Ext W w' → w'.cell? ⟨wq.heap.size, 1, none⟩ = some (.slice fhA fhi.length fhc) := fun w' h => (hW.trans h).cell r1
                  simp only [List.take_succ_cons, List.take_zero]
                  repeat (first | (apply wpM_one; (case hg => rfl); (case hsp => rfl); (case hv => (intro w' hw'; go_simp; exact rfl)); simp only [Act.put, List.setIfInBounds_toArray, List.set_cons_succ, List.set_cons_zero]; try simp only [wrap_zero]) | (apply wpM_oneG; (case hw => rfl); (case hsp => rfl); (case hv => (intro w' hw'; go_simp; exact rfl)); simp only [Act.put, List.setIfInBounds_toArray, List.set_cons_succ, List.set_cons_zero]; try simp only [wrap_zero]) | (apply wpM_pass; (case hw => rfl); simp only [Act.put, List.setIfInBounds_toArray, List.set_cons_succ, List.set_cons_zero]; try simp only [wrap_zero]))
                  apply wpM_nil
                  apply hN
                  intro w11 hE14 hK
                  clear hK hN e1 e2 e3
                  have hE15 := hW.trans hE14
                  have s1 := hE15.cell q1
                  have x1 := hE15.cell r1
                  have ho3 := ownsRow_ext ho2 hE15
                  have hE16 := hEW.trans hE14
                  clear q1 q2 r0 r1 r2 hW hEW hE14
                  have hun : uniB ⟨xlo, xhi, true⟩ ⟨flo, fhi, false⟩ = rg (uH ⟨xlA, xlc, xlo, xhA, xhc, xhi, true⟩ ⟨flA, flc, flo, fhA, fhc, fhi, false⟩ 2) := by simp [uniB, uH]
                  have hmu := HMX.out.uni HOKF.out HLF.out HSEP.out
                  rw [hun] at hmu
                  have HM2 := Lib.hid (show Merged ((gs.take (k + 1)).map rg) ((os ++ [uH ⟨xlA, xlc, xlo, xhA, xhc, xhi, true⟩ ⟨flA, flc, flo, fhA, fhc, fhi, false⟩ 2]).map rg) by rw [HTK.out]; simpa using hmu)
                  have hok9 := uniB_ok HOKX.out HOKF.out (HMX.out.lef HLF.out)
                  rw [hun] at hok9
                  have HO2 := Lib.hid (HO.out.uni 2 hok9)
                  clear hun hmu hok9
                  go_wp2
                  go_roundw
                  case rel => exact ⟨hE16, k + 1, os ++ [uH ⟨xlA, xlc, xlo, xhA, xhc, xhi, true⟩ ⟨flA, flc, flo, fhA, fhc, fhi, false⟩ 2], by omega, by have := HLN.out; simp at this ⊢ <;> omega, by go_num, (by rw [show (os ++ [uH ⟨xlA, xlc, xlo, xhA, xhc, xhi, true⟩ ⟨flA, flc, flo, fhA, fhc, fhi, false⟩ 2]).length = m1 by rw [← HM1.out]; simp]; exact ho3), HO2, HM2⟩
                  case measure => simp [intOf]; omega
              | false =>
                by_cases hsp : cmpB xhi flo < 0
                · have HSEP := Lib.hid (show sepB ⟨xlo, xhi, false⟩ ⟨flo, fhi, fop⟩ = true by simp [sepB, LtB, hsp])
                  refine wp_region_mild 20 (fun i => match i with
                    | 17 => some fun _ v w' => v = .int .i64 (cmpB xhi flo)
                    | _ => none) (by kernel_rfl) (by kernel_rfl) (fun W N hW hN => ?_)
                  have hEW := (hE8.trans hE9).trans hW
                  have e1 : ∀ w', Ext W w' → w'.cell? ⟨go, L * 3 + 1, none⟩ = some (.slice xhA xhi.length xhc) := fun w' h => (hW.trans h).cell p1
                  have e2 : ∀ w', Ext W w' → w'.cell? ⟨go, L * 3 + 2, none⟩ = some (.bool false) := fun w' h => (hW.trans h).cell p2
                  have e3 : ∀ w', Ext W w' → w'.cell? ⟨wq.heap.size, 0, none⟩ = some (.slice flA flo.length flc) := fun w' h => (hW.trans h).cell h0
                  simp only [List.take_succ_cons, List.take_zero]
                  repeat (first | (apply wpM_one; (case hg => rfl); (case hsp => rfl); (case hv => (intro w' hw'; go_simp; exact rfl)); simp only [Act.put, List.setIfInBounds_toArray, List.set_cons_succ, List.set_cons_zero]; try simp only [wrap_zero]) | (apply wpM_oneG; (case hw => rfl); (case hsp => rfl); (case hv => (intro w' hw'; go_simp; exact rfl)); simp only [Act.put, List.setIfInBounds_toArray, List.set_cons_succ, List.set_cons_zero]; try simp only [wrap_zero]) | (apply wpM_pass; (case hw => rfl); simp only [Act.put, List.setIfInBounds_toArray, List.set_cons_succ, List.set_cons_zero]; try simp only [wrap_zero]))
                  refine wpM_newG _ rfl rfl (fun V v => Stable.pure) (fun V V' h => rfl) (fun w' hw' hK => ?_) (fun v hv => ?_)
                  · unfold mildAt; go_simp; rw [mildUpon_enter]
                    refine ⟨Below.refl _ _, (bcompare_any (sX.ext (hEW.trans hw')) (sF0.ext (hEW.trans hw'))).mono ?_⟩
                    rintro e w2 ⟨rfl, hE2⟩
                    exact ⟨_, rfl, hE2, rfl⟩
                  obtain ⟨_, _, _, rfl⟩ := hv
                  simp only [Act.put, List.setIfInBounds_toArray, List.set_cons_succ, List.set_cons_zero]
                  repeat (first | (apply wpM_one; (case hg => rfl); (case hsp => rfl); (case hv => (intro w' hw'; go_simp; exact rfl)); simp only [Act.put, List.setIfInBounds_toArray, List.set_cons_succ, List.set_cons_zero]; try simp only [wrap_zero]) | (apply wpM_oneG; (case hw => rfl); (case hsp => rfl); (case hv => (intro w' hw'; go_simp; exact rfl)); simp only [Act.put, List.setIfInBounds_toArray, List.set_cons_succ, List.set_cons_zero]; try simp only [wrap_zero]) | (apply wpM_pass; (case hw => rfl); simp only [Act.put, List.setIfInBounds_toArray, List.set_cons_succ, List.set_cons_zero]; try simp only [wrap_zero]))
                  apply wpM_nil
                  apply hN
                  clear h0 h1 h2
                  intro w10 hE10 hK
                  clear hK hN
                  have hb10 := (hW.trans hE10).blk hbw9
                  have hE11 := (hE9.trans hW).trans hE10
                  have ho4 := ownsRow_ext ho hE11
                  have hEc := hE8.trans hE11
                  have h0 := cell_of_row w10 wq.heap.size 0 _ _ _ hb10
                  have h1 := cell_of_row w10 wq.heap.size 1 _ _ _ hb10
                  have h2 := cell_of_row w10 wq.heap.size 2 _ _ _ hb10
                  simp at h0 h1 h2
                  go_wp2_with (at_builtin; refine wpList_append_own _ rfl _ _ 37 rfl w6.heap.size 32 i0 (.agg #[.slice none 0 0, .slice none 0 0, .bool false]) 3 56 Try.underlying37 hti hz0 hz1 hz2 rfl (by decide) _ _ _ rfl (World.ownsRow.alloc ho4 _) ⟨w10.heap.size, 0, none⟩ 1 1 (c3 ⟨flA, flc, flo, fhA, fhc, fhi, fop⟩) rfl rfl (cells_new _ _ _) (by simp [Value.oneCell']) (by simp [maxLen] <;> omega) (by omega) (by have := (hEc).size; simp; omega) ?_; intro v9 w12 hown5 hgrow5 _)
                  have hEd := ext_append hEc ho4 hgrow5
                  rw [← HM1.out] at hown5
                  have ho5 := snoc_row (fs := (os ++ [(⟨xlA, xlc, xlo, xhA, xhc, xhi, false⟩ : Fr)])) hown5
                  have HM2 := Lib.hid (show Merged ((gs.take (k + 1)).map rg) (((os ++ [(⟨xlA, xlc, xlo, xhA, xhc, xhi, false⟩ : Fr)]) ++ [(⟨flA, flc, flo, fhA, fhc, fhi, fop⟩ : Fr)]).map rg) by rw [HTK.out]; have h9 := HMX.out.add HOKF.out HLF.out HSEP.out; simpa using h9)
                  have HO2 := Lib.hid (show OwnL w.heap.size w6 ((os ++ [(⟨xlA, xlc, xlo, xhA, xhc, xhi, false⟩ : Fr)]) ++ [(⟨flA, flc, flo, fhA, fhc, fhi, fop⟩ : Fr)] ++ gs.drop (k + 1)) by rw [List.append_assoc]; exact HO.out)
                  clear hgrow5 hown5
                  go_wp2
                  go_roundw
                  case rel => exact ⟨hEd, k + 1, (os ++ [(⟨xlA, xlc, xlo, xhA, xhc, xhi, false⟩ : Fr)]) ++ [⟨flA, flc, flo, fhA, fhc, fhi, fop⟩], by omega, by have := HLN.out; simp at this ⊢ <;> omega, by go_num, ho5, HO2, HM2⟩
                  case measure => simp [intOf]; omega
                · have HSEP := Lib.hid (show sepB ⟨xlo, xhi, false⟩ ⟨flo, fhi, fop⟩ = false by simp [sepB, LtB, hsp])
                  have hsp2 : 0 ≤ cmpB xhi flo := by omega
                  refine wp_region_mild 20 (fun i => match i with
                    | 17 => some fun _ v w' => v = .int .i64 (cmpB xhi flo)
                    | _ => none) (by kernel_rfl) (by kernel_rfl) (fun W N hW hN => ?_)
                  have hEW := (hE8.trans hE9).trans hW
                  have e1 : ∀ w', Ext W w' → w'.cell? ⟨go, L * 3 + 1, none⟩ = some (.slice xhA xhi.length xhc) := fun w' h => (hW.trans h).cell p1
                  have e2 : ∀ w', Ext W w' → w'.cell? ⟨go, L * 3 + 2, none⟩ = some (.bool false) := fun w' h => (hW.trans h).cell p2
                  have e3 : ∀ w', Ext W w' → w'.cell? ⟨wq.heap.size, 0, none⟩ = some (.slice flA flo.length flc) := fun w' h => (hW.trans h).cell h0
                  simp only [List.take_succ_cons, List.take_zero]
                  repeat (first | (apply wpM_one; (case hg => rfl); (case hsp => rfl); (case hv => (intro w' hw'; go_simp; exact rfl)); simp only [Act.put, List.setIfInBounds_toArray, List.set_cons_succ, List.set_cons_zero]; try simp only [wrap_zero]) | (apply wpM_oneG; (case hw => rfl); (case hsp => rfl); (case hv => (intro w' hw'; go_simp; exact rfl)); simp only [Act.put, List.setIfInBounds_toArray, List.set_cons_succ, List.set_cons_zero]; try simp only [wrap_zero]) | (apply wpM_pass; (case hw => rfl); simp only [Act.put, List.setIfInBounds_toArray, List.set_cons_succ, List.set_cons_zero]; try simp only [wrap_zero]))
                  refine wpM_newG _ rfl rfl (fun V v => Stable.pure) (fun V V' h => rfl) (fun w' hw' hK => ?_) (fun v hv => ?_)
                  · unfold mildAt; go_simp; rw [mildUpon_enter]
                    refine ⟨Below.refl _ _, (bcompare_any (sX.ext (hEW.trans hw')) (sF0.ext (hEW.trans hw'))).mono ?_⟩
                    rintro e w2 ⟨rfl, hE2⟩
                    exact ⟨_, rfl, hE2, rfl⟩
                  obtain ⟨_, _, _, rfl⟩ := hv
                  simp only [Act.put, List.setIfInBounds_toArray, List.set_cons_succ, List.set_cons_zero]
                  repeat (first | (apply wpM_one; (case hg => rfl); (case hsp => rfl); (case hv => (intro w' hw'; go_simp; exact rfl)); simp only [Act.put, List.setIfInBounds_toArray, List.set_cons_succ, List.set_cons_zero]; try simp only [wrap_zero]) | (apply wpM_oneG; (case hw => rfl); (case hsp => rfl); (case hv => (intro w' hw'; go_simp; exact rfl)); simp only [Act.put, List.setIfInBounds_toArray, List.set_cons_succ, List.set_cons_zero]; try simp only [wrap_zero]) | (apply wpM_pass; (case hw => rfl); simp only [Act.put, List.setIfInBounds_toArray, List.set_cons_succ, List.set_cons_zero]; try simp only [wrap_zero]))
                  apply wpM_nil
                  apply hN
                  intro w10 hE10 hK
                  clear hK hN e1 e2 e3
                  have hE12 := hW.trans hE10
                  have q1 := hE12.cell p1
                  have q2 := hE12.cell p2
                  have r0 := hE12.cell h0
                  have r1 := hE12.cell h1
                  have r2 := hE12.cell h2
                  have ho2 := ownsRow_ext ho (hE9.trans hE12)
                  have hE13 := hEW.trans hE10
                  clear hE10 hEW hW p1 p2 h0 h1 h2
                  cases fop with
                  | true =>
                    have ho3 := ho2
                    have hfr1 := World.ownsRow.frozenAt ho3 (L * 3 + 1)
                    have hst1 := (World.ownsRow.stored ho3 (L * 3 + 1) (.slice none 0 0)).1
                    have hfr2 := World.ownsRow.frozenAt hst1 (L * 3 + 2)
                    have hst2 := (World.ownsRow.stored hst1 (L * 3 + 2) (.bool true)).1
                    have s2 := World.ownsRow.cellAt hst1 (L * 3 + 2) (by omega)
                    rw [List.getElem?_set_ne (by omega), ← World.ownsRow.cellAt ho3 (L * 3 + 2) (by omega), q2] at s2
                    have hEn := ext_store (p := ⟨go, L * 3 + 2, none⟩) (ext_store (p := ⟨go, L * 3 + 1, none⟩) hE13 hgo (.slice none 0 0)) hgo (.bool true)
                    have hun : uniB ⟨xlo, xhi, false⟩ ⟨flo, fhi, true⟩ = rg (uH ⟨xlA, xlc, xlo, xhA, xhc, xhi, false⟩ ⟨flA, flc, flo, fhA, fhc, fhi, true⟩ 0) := by simp [uniB, uH]
                    have hmu := HMX.out.uni HOKF.out HLF.out HSEP.out
                    rw [hun] at hmu
                    have HM2 := Lib.hid (show Merged ((gs.take (k + 1)).map rg) ((os ++ [uH ⟨xlA, xlc, xlo, xhA, xhc, xhi, false⟩ ⟨flA, flc, flo, fhA, fhc, fhi, true⟩ 0]).map rg) by rw [HTK.out]; simpa using hmu)
                    have hok9 := uniB_ok HOKX.out HOKF.out (HMX.out.lef HLF.out)
                    rw [hun] at hok9
                    have HO2 := Lib.hid (HO.out.uni 0 hok9)
                    clear hun hmu hok9
                    go_wp2
                    go_roundw
                    case rel => exact ⟨hEn, k + 1, os ++ [uH ⟨xlA, xlc, xlo, xhA, xhc, xhi, false⟩ ⟨flA, flc, flo, fhA, fhc, fhi, true⟩ 0], by omega, by have := HLN.out; simp at this ⊢ <;> omega, by go_num, (by rw [show (os ++ [uH ⟨xlA, xlc, xlo, xhA, xhc, xhi, false⟩ ⟨flA, flc, flo, fhA, fhc, fhi, true⟩ 0]).length = m1 by rw [← HM1.out]; simp]; have e9 := set2 os ⟨xlA, xlc, xlo, xhA, xhc, xhi, false⟩ ⟨flA, flc, flo, fhA, fhc, fhi, true⟩; rw [HL.out] at e9; rw [← e9]; exact hst2), HO2, HM2⟩
                    case measure => simp [intOf]; omega
                  | false =>
                    by_cases hlv : cmpB xhi fhi < 0
                    · go_wp2
                      refine wp_region_mild 14 (fun i => match i with
                        | 12 => some fun _ v w' => v = .int .i64 (cmpB xhi fhi)
                        | _ => none) (by kernel_rfl) (by kernel_rfl) (fun W N hW hN => ?_)
                      have hEW := hE13.trans hW
                      have e1 : ∀ w', Ext W w' → w'.cell? ⟨go, L * 3 + 1, none⟩ = some (.slice xhA xhi.length xhc) := fun w' h => (hW.trans h).cell q1
                      have e2 : ∀ w', Ext W w' → w'.cell? ⟨go, L * 3 + 2, none⟩ = some (.bool false) := fun w' h => (hW.trans h).cell q2
                      have e3 : ∀ w', Ext W w' → w'.cell? ⟨wq.heap.size, 1, none⟩ = some (.slice fhA fhi.length fhc) := fun w' h => (hW.trans h).cell r1
                      simp only [List.take_succ_cons, List.take_zero]
                      repeat (first | (apply wpM_one; (case hg => rfl); (case hsp => rfl); (case hv => (intro w' hw'; go_simp; exact rfl)); simp only [Act.put, List.setIfInBounds_toArray, List.set_cons_succ, List.set_cons_zero]; try simp only [wrap_zero]) | (apply wpM_oneG; (case hw => rfl); (case hsp => rfl); (case hv => (intro w' hw'; go_simp; exact rfl)); simp only [Act.put, List.setIfInBounds_toArray, List.set_cons_succ, List.set_cons_zero]; try simp only [wrap_zero]) | (apply wpM_pass; (case hw => rfl); simp only [Act.put, List.setIfInBounds_toArray, List.set_cons_succ, List.set_cons_zero]; try simp only [wrap_zero]))
                      refine wpM_newG _ rfl rfl (fun V v => Stable.pure) (fun V V' h => rfl) (fun w' hw' hK => ?_) (fun v hv => ?_)
                      · unfold mildAt; go_simp; rw [mildUpon_enter]
                        refine ⟨Below.refl _ _, (bcompare_any (sX.ext (hEW.trans hw')) (sF1.ext (hEW.trans hw'))).mono ?_⟩
                        rintro e w2 ⟨rfl, hE2⟩
                        exact ⟨_, rfl, hE2, rfl⟩
                      obtain ⟨_, _, _, rfl⟩ := hv
                      simp only [Act.put, List.setIfInBounds_toArray, List.set_cons_succ, List.set_cons_zero]
                      repeat (first | (apply wpM_one; (case hg => rfl); (case hsp => rfl); (case hv => (intro w' hw'; go_simp; exact rfl)); simp only [Act.put, List.setIfInBounds_toArray, List.set_cons_succ, List.set_cons_zero]; try simp only [wrap_zero]) | (apply wpM_oneG; (case hw => rfl); (case hsp => rfl); (case hv => (intro w' hw'; go_simp; exact rfl)); simp only [Act.put, List.setIfInBounds_toArray, List.set_cons_succ, List.set_cons_zero]; try simp only [wrap_zero]) | (apply wpM_pass; (case hw => rfl); simp only [Act.put, List.setIfInBounds_toArray, List.set_cons_succ, List.set_cons_zero]; try simp only [wrap_zero]))
                      apply wpM_nil
                      apply hN
                      intro w11 hE14 hK
                      clear hK hN e1 e2 e3
                      have hE15 := hW.trans hE14
                      have s1 := hE15.cell q1
                      have x1 := hE15.cell r1
                      have ho3 := ownsRow_ext ho2 hE15
                      have hE16 := hEW.trans hE14
                      clear q1 q2 r0 r1 r2 hW hEW hE14
                      have hfr1 := World.ownsRow.frozenAt ho3 (L * 3 + 1)
                      have hst1 := (World.ownsRow.stored ho3 (L * 3 + 1) (.slice fhA fhi.length fhc)).1
                      have hEn := ext_store (p := ⟨go, L * 3 + 1, none⟩) hE16 hgo (.slice fhA fhi.length fhc)
                      have hun : uniB ⟨xlo, xhi, false⟩ ⟨flo, fhi, false⟩ = rg (uH ⟨xlA, xlc, xlo, xhA, xhc, xhi, false⟩ ⟨flA, flc, flo, fhA, fhc, fhi, false⟩ 1) := by have h9 : decide (LtB xhi fhi) = true := decide_eq_true hlv; simp [uniB, uH, h9]
                      have hmu := HMX.out.uni HOKF.out HLF.out HSEP.out
                      rw [hun] at hmu
                      have HM2 := Lib.hid (show Merged ((gs.take (k + 1)).map rg) ((os ++ [uH ⟨xlA, xlc, xlo, xhA, xhc, xhi, false⟩ ⟨flA, flc, flo, fhA, fhc, fhi, false⟩ 1]).map rg) by rw [HTK.out]; simpa using hmu)
                      have hok9 := uniB_ok HOKX.out HOKF.out (HMX.out.lef HLF.out)
                      rw [hun] at hok9
                      have HO2 := Lib.hid (HO.out.uni 1 hok9)
                      clear hun hmu hok9
                      go_wp2
                      go_roundw
                      case rel => exact ⟨hEn, k + 1, os ++ [uH ⟨xlA, xlc, xlo, xhA, xhc, xhi, false⟩ ⟨flA, flc, flo, fhA, fhc, fhi, false⟩ 1], by omega, by have := HLN.out; simp at this ⊢ <;> omega, by go_num, (by rw [show (os ++ [uH ⟨xlA, xlc, xlo, xhA, xhc, xhi, false⟩ ⟨flA, flc, flo, fhA, fhc, fhi, false⟩ 1]).length = m1 by rw [← HM1.out]; simp]; have e9 := set1 os ⟨xlA, xlc, xlo, xhA, xhc, xhi, false⟩ ⟨flA, flc, flo, fhA, fhc, fhi, false⟩ rfl; rw [HL.out] at e9; rw [← e9]; exact hst1), HO2, HM2⟩
                      case measure => simp [intOf]; omega
                    · have hlv2 : 0 ≤ cmpB xhi fhi := by omega
                      go_wp2
                      refine wp_region_mild 14 (fun i => match i with
                        | 12 => some fun _ v w' => v = .int .i64 (cmpB xhi fhi)
                        | _ => none) (by kernel_rfl) (by kernel_rfl) (fun W N hW hN => ?_)
                      have hEW := hE13.trans hW
                      have e1 : ∀ w', Ext W w' → w'.cell? ⟨go, L * 3 + 1, none⟩ = some (.slice xhA xhi.length xhc) := fun w' h => (hW.trans h).cell q1
                      have e2 : ∀ w', Ext W w' → w'.cell? ⟨go, L * 3 + 2, none⟩ = some (.bool false) := fun w' h => (hW.trans h).cell q2
                      have e3 : ∀ w', Ext W w' → w'.cell? ⟨wq.heap.size, 1, none⟩ = some (.slice fhA fhi.length fhc) := fun w' h => (hW.trans h).cell r1
                      simp only [List.take_succ_cons, List.take_zero]
                      repeat (first | (apply wpM_one; (case hg => rfl); (case hsp => rfl); (case hv => (intro w' hw'; go_simp; exact rfl)); simp only [Act.put, List.setIfInBounds_toArray, List.set_cons_succ, List.set_cons_zero]; try simp only [wrap_zero]) | (apply wpM_oneG; (case hw => rfl); (case hsp => rfl); (case hv => (intro w' hw'; go_simp; exact rfl)); simp only [Act.put, List.setIfInBounds_toArray, List.set_cons_succ, List.set_cons_zero]; try simp only [wrap_zero]) | (apply wpM_pass; (case hw => rfl); simp only [Act.put, List.setIfInBounds_toArray, List.set_cons_succ, List.set_cons_zero]; try simp only [wrap_zero]))
                      refine wpM_newG _ rfl rfl (fun V v => Stable.pure) (fun V V' h => rfl) (fun w' hw' hK => ?_) (fun v hv => ?_)
                      · unfold mildAt; go_simp; rw [mildUpon_enter]
                        refine ⟨Below.refl _ _, (bcompare_any (sX.ext (hEW.trans hw')) (sF1.ext (hEW.trans hw'))).mono ?_⟩
                        rintro e w2 ⟨rfl, hE2⟩
                        exact ⟨_, rfl, hE2, rfl⟩
                      obtain ⟨_, _, _, rfl⟩ := hv
                      simp only [Act.put, List.setIfInBounds_toArray, List.set_cons_succ, List.set_cons_zero]
                      repeat (first | (apply wpM_one; (case hg => rfl); (case hsp => rfl); (case hv => (intro w' hw'; go_simp; exact rfl)); simp only [Act.put, List.setIfInBounds_toArray, List.set_cons_succ, List.set_cons_zero]; try simp only [wrap_zero]) | (apply wpM_oneG; (case hw => rfl); (case hsp => rfl); (case hv => (intro w' hw'; go_simp; exact rfl)); simp only [Act.put, List.setIfInBounds_toArray, List.set_cons_succ, List.set_cons_zero]; try simp only [wrap_zero]) | (apply wpM_pass; (case hw => rfl); simp only [Act.put, List.setIfInBounds_toArray, List.set_cons_succ, List.set_cons_zero]; try simp only [wrap_zero]))
                      apply wpM_nil
                      apply hN
                      intro w11 hE14 hK
                      clear hK hN e1 e2 e3
                      have hE15 := hW.trans hE14
                      have s1 := hE15.cell q1
                      have x1 := hE15.cell r1
                      have ho3 := ownsRow_ext ho2 hE15
                      have hE16 := hEW.trans hE14
                      clear q1 q2 r0 r1 r2 hW hEW hE14
                      have hun : uniB ⟨xlo, xhi, false⟩ ⟨flo, fhi, false⟩ = rg (uH ⟨xlA, xlc, xlo, xhA, xhc, xhi, false⟩ ⟨flA, flc, flo, fhA, fhc, fhi, false⟩ 2) := by have h9 : decide (LtB xhi fhi) = false := decide_eq_false (by unfold LtB; omega); simp [uniB, uH, h9]
                      have hmu := HMX.out.uni HOKF.out HLF.out HSEP.out
                      rw [hun] at hmu
                      have HM2 := Lib.hid (show Merged ((gs.take (k + 1)).map rg) ((os ++ [uH ⟨xlA, xlc, xlo, xhA, xhc, xhi, false⟩ ⟨flA, flc, flo, fhA, fhc, fhi, false⟩ 2]).map rg) by rw [HTK.out]; simpa using hmu)
                      have hok9 := uniB_ok HOKX.out HOKF.out (HMX.out.lef HLF.out)
                      rw [hun] at hok9
                      have HO2 := Lib.hid (HO.out.uni 2 hok9)
                      clear hun hmu hok9
                      go_wp2
                      go_roundw
                      case rel => exact ⟨hE16, k + 1, os ++ [uH ⟨xlA, xlc, xlo, xhA, xhc, xhi, false⟩ ⟨flA, flc, flo, fhA, fhc, fhi, false⟩ 2], by omega, by have := HLN.out; simp at this ⊢ <;> omega, by go_num, (by rw [show (os ++ [uH ⟨xlA, xlc, xlo, xhA, xhc, xhi, false⟩ ⟨flA, flc, flo, fhA, fhc, fhi, false⟩ 2]).length = m1 by rw [← HM1.out]; simp]; exact ho3), HO2, HM2⟩
                      case measure => simp [intOf]; omega
          · have hki : ¬ (k : Int) < (m : Int) := by omega
            have hko : k = m := by omega
            have HC := Lib.hid (show CovOf (rs.map rg) (os.map rg) from HM.out.cov (by rw [List.take_of_length_le (by have := HGL.out; omega)]; exact HPM.out))
            have HOE := Lib.hid (show OwnL w.heap.size wq os by
              have h9 := HO.out
              rw [List.drop_of_length_le (by have := HGL.out; omega), List.append_nil] at h9
              exact h9.ext hE8)
            have HE9 := Lib.hid (hE6.trans hE8)
            have hoq := own_mono ho hE6.size
            clear HO HM HROW HPM HLE HOG ho hE8
            go_wp2
            go_ret
            exact ⟨_, rfl, os, hoq, HOE.out, HC.out, by omega, HE9.out⟩
end Go.Proofs.Ytijlaknfagpglaa
