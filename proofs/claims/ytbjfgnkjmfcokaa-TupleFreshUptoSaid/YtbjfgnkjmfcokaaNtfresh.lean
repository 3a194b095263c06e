/- The walk of TupleFresh. No condition but that what comes in lies in memory and that its texts are no longer than 2^40. -/
import Derived.Test.YtbjfgnkjmfcokaaTworks
import Derived.Test.YtbjfgnkjmfcokaaTbegin
import Derived.Test.YtbjfgnkjmfcokaaTown
import Derived.Test.YtbjfgnkjmfcokaaRapart
namespace Go.Proofs.Ytbjfgnkjmfcokaa
set_option linter.unusedVariables false
open Go.RowKit Go.Proofs
theorem apart6 {h1 h2 h3 h4 h5 h6 : Hd} {s1 t1 s2 t2 s4 t4 s5 t5 s6 t6 : Nat} (f1 : ∀ q, h1.v.ownBlock = some q → s1 ≤ q ∧ q < t1) (f2 : ∀ q, h2.v.ownBlock = some q → s2 ≤ q ∧ q < t2) (f3 : ∀ q, h3.v.ownBlock = some q → s2 ≤ q ∧ q < t2) (f23 : NoShare h2.v h3.v)
    (f4 : ∀ q, h4.v.ownBlock = some q → s4 ≤ q ∧ q < t4) (f5 : ∀ q, h5.v.ownBlock = some q → s5 ≤ q ∧ q < t5) (f6 : ∀ q, h6.v.ownBlock = some q → s6 ≤ q ∧ q < t6)
    (b1 : t1 ≤ s2) (b2 : t2 ≤ s4) (b4 : t4 ≤ s5) (b5 : t5 ≤ s6) (c2 : s2 ≤ t2) (c4 : s4 ≤ t4) (c5 : s5 ≤ t5) : ApartH [h1, h2, h3, h4, h5, h6] := by
  have key : ∀ (j1 j2 : Nat) (x y : Hd) (q : Nat), [h1, h2, h3, h4, h5, h6][j1]? = some x → [h1, h2, h3, h4, h5, h6][j2]? = some y → j1 < j2 → x.v.ownBlock = some q → y.v.ownBlock = some q → False := by
    intro j1 j2 x y q e1 e2 hlt q1 q2
    have hj : j2 < 6 := (List.getElem?_eq_some_iff.1 e2).1
    have g1 := f1 q
    have g2 := f2 q
    have g3 := f3 q
    have g4 := f4 q
    have g5 := f5 q
    have g6 := f6 q
    have g23 := f23 q
    rcases j2 with _ | _ | _ | _ | _ | _ | j2 <;> rcases j1 with _ | _ | _ | _ | _ | _ | j1 <;>
      first
      | omega
      | (simp only [List.getElem?_cons_zero, List.getElem?_cons_succ, Option.some.injEq, Nat.zero_add] at e1 e2
         subst e1 e2
         first
         | exact absurd q2 (g23 q1)
         | (have z1 := g1 q1; have z2 := g2 q2; omega)
         | (have z1 := g1 q1; have z2 := g3 q2; omega)
         | (have z1 := g1 q1; have z2 := g4 q2; omega)
         | (have z1 := g1 q1; have z2 := g5 q2; omega)
         | (have z1 := g1 q1; have z2 := g6 q2; omega)
         | (have z1 := g2 q1; have z2 := g4 q2; omega)
         | (have z1 := g2 q1; have z2 := g5 q2; omega)
         | (have z1 := g2 q1; have z2 := g6 q2; omega)
         | (have z1 := g3 q1; have z2 := g4 q2; omega)
         | (have z1 := g3 q1; have z2 := g5 q2; omega)
         | (have z1 := g3 q1; have z2 := g6 q2; omega)
         | (have z1 := g4 q1; have z2 := g5 q2; omega)
         | (have z1 := g4 q1; have z2 := g6 q2; omega)
         | (have z1 := g5 q1; have z2 := g6 q2; omega))
  intro j1 j2 x y q e1 e2 hne q1 q2
  rcases Nat.lt_or_ge j1 j2 with hl | hl
  · exact key j1 j2 x y q e1 e2 hl q1 q2
  · exact key j2 j1 y x q e2 e1 (by omega) q2 q1
theorem KeepR.of_exc {e e' : TypeId} {n B g : Nat} {w w' : World} {cs : Array Value} {fr : Nat × Nat} (hx : Exc (fun q _ => q = g) w w') (hg : w.heap[g]? = some (.cells cs e' fr)) (hne : e ≠ e') : KeepR e n B w w' := fun v k xs ho => by
  refine ⟨ho.1, ?_⟩
  rcases ho.2 with h0 | ⟨q, cap, cur, hv, hb, hq, r⟩
  · exact .inl h0
  · refine .inr ⟨q, cap, cur, hv, hb, hx.blk hq (fun e => ?_), r⟩
    subst e
    rw [hg] at hq
    injection hq with hq
    injection hq with _ h2
    exact hne h2.symm
theorem own_made {w : World} {g m n B : Nat} {z : Value} {e : TypeId} (h : w.heap[g]? = some (.cells (madeCells z.cells (m * n)) e (0, 0))) (hB : B ≤ g) (hm : m ≤ maxLen) : ∃ xs, w.ownsRow B e n (.slice (some ⟨g, 0, none⟩) m m) m xs := by
  have hs : (madeCells z.cells (m * n)).size = m * n := by simp [madeCells]
  refine ⟨(madeCells z.cells (m * n)).toList, by simpa using hs, .inr ⟨g, m, _, rfl, hB, h, Nat.le_refl _, hm, hs, ?_⟩⟩
  rw [List.take_of_length_le (by simp [hs])]
theorem one_dcv (v : Vl) : ∀ u ∈ v.dc, u.oneCell' = true := fun u hu => one_dc [v] u (by simpa using hu)
set_option maxRecDepth 100000 in
set_option maxHeartbeats 4000000 in
theorem tfresh_any {A B : Option Addr} {c d : Nat} {x y : List Vl} {w : World} (hx : DL w A c x) (gx : x.length + 2 ≤ 2199023255552) (tx : ∀ v ∈ x, v.text.length ≤ 1099511627776) (hy : DL w B d y) (gy : y.length + 2 ≤ 2199023255552) (ty : ∀ v ∈ y, v.text.length ≤ 1099511627776) :
    Calls Try.prog 12 #[.slice A x.length c, .slice B y.length d] w fun e w' => e = .returned (.bool true) ∧ Ext w w' := by
  obtain ⟨i7, hi7, hz70, hz71, hz72⟩ := info_parts infoV
  have hlx := length_encO x
  have hly := length_encO y
  have hlz := length_hiO x
  have hl := hx.len
  have hl2 := hy.len
  have HT1 := fun w B d => @tEncode_any w B d x
  have HT2 := fun w B d => @tEncode_any w B d y
  have HT3 := fun w B d => @begin_any w B d x
  have HD1 := fun w => @dEncode_any w A c x
  generalize encE x = en at *
  generalize encO x = lo at *
  generalize encE y = em at *
  generalize encO y = lp at *
  generalize hiO x = up at *
  go_enter Try.func12, Try.ntmps12
  go_wp2_with fail
  refine (list_any hx).mono ?_
  rintro e w1 ⟨g, rfl, hg, hbg, hE1⟩
  have px := hbg.list gx hx.ok
  go_wp2_with fail
  refine (HT1 _ _ _ px tx).mono ?_
  rintro e w2 ⟨A2, c2, rfl, ho2, hE2⟩
  have hE := hE1.trans hE2
  replace px := px.ext hE2
  replace hbg := hbg.ext hE2
  go_wp2_with fail
  refine (HT3 _ _ _ px tx).mono ?_
  rintro e w3 ⟨A3, c3, A4, c4, rfl, ho3, ho4, hns, hE3⟩
  have hB := heap_alloc_new w3 (.cells #[.slice A3 lo.length c3, .slice A4 up.length c4, .bool false] 34)
  have hEb := ext_alloc w3 (.cells #[.slice A3 lo.length c3, .slice A4 up.length c4, .bool false] 34)
  replace hE := (hE.trans hE3).trans hEb
  replace px := (px.ext hE3).ext hEb
  replace hbg := (hbg.ext hE3).ext hEb
  clear HT3
  go_wp2_with fail
  refine (list_any (hy.ext hE)).mono ?_
  rintro e w4 ⟨g4, rfl, hg4, hb4, hE4⟩
  clear hg4
  go_wp2_with fail
  refine (HT2 _ _ _ (hb4.list gy hy.ok) ty).mono ?_
  rintro e w5 ⟨A5, c5, rfl, ho5, hE5⟩
  replace hE := (hE.trans hE4).trans hE5
  replace px := (px.ext hE4).ext hE5
  replace hbg := (hbg.ext hE4).ext hE5
  clear HT2 hb4
  go_wp2_with fail
  refine (HT1 _ _ _ px tx).mono ?_
  rintro e w6 ⟨A6, c6, rfl, ho6, hE6⟩
  replace hE := hE.trans hE6
  replace hbg := hbg.ext hE6
  clear HT1 px
  go_wp2_with fail
  refine (HD1 _ (hx.ext hE) tx).mono ?_
  rintro e w7 ⟨A7, c7, rfl, ho7, hE7⟩
  replace hE := hE.trans hE7
  replace hbg := hbg.ext hE7
  clear HD1
  have E2 := ((((hE3.trans hEb).trans hE4).trans hE5).trans hE6).trans hE7
  have E3 := (((hEb.trans hE4).trans hE5).trans hE6).trans hE7
  have E5 := hE6.trans hE7
  have Eb := ((hE4.trans hE5).trans hE6).trans hE7
  have z1 := hE1.size
  have z2 := hE2.size
  have z3 := hE3.size
  have zb := hEb.size
  have z4 := hE4.size
  have z5 := hE5.size
  have z6 := hE6.size
  have z7 := hE7.size
  have f2 := fun q hq => ho2.lt q hq
  have f3 := fun q hq => ho3.lt q hq
  have f4 := fun q hq => ho4.lt q hq
  have f5 := fun q hq => ho5.lt q hq
  have f6 := fun q hq => ho6.lt q hq
  replace ho2 : w7.ownsRow w1.heap.size _ _ _ _ _ := own_ext ho2 E2
  replace ho3 : w7.ownsRow w2.heap.size _ _ _ _ _ := own_ext ho3 E3
  replace ho4 : w7.ownsRow w2.heap.size _ _ _ _ _ := own_ext ho4 E3
  replace ho5 : w7.ownsRow w4.heap.size _ _ _ _ _ := own_ext ho5 E5
  replace ho6 : w7.ownsRow w5.heap.size _ _ _ _ _ := own_ext ho6 hE7
  replace hB := Eb.blk hB
  clear hE1 hE2 hE3 hEb hE4 hE5 hE6 hE7 E2 E3 E5 Eb
  have s2 := Own.sl (show Own 5 w1.heap.size w7 A2 c2 lo from ho2) (by omega)
  have s6 := Own.sl (show Own 5 w5.heap.size w7 A6 c6 lo from ho6) (by omega)
  have s7 := ho7.sl (by omega)
  clear ho7
  have HQ := eqBytes_any s2 s7
  rw [eqB_self] at HQ
  go_wp2_with fail
  refine HQ.mono ?_
  rintro e w8 ⟨rfl, hE8⟩
  have HQ := eqBytes_any (s6.ext hE8) (s7.ext hE8)
  rw [eqB_self] at HQ
  go_wp2_with fail
  refine HQ.mono ?_
  rintro e w9 ⟨rfl, hE9⟩
  clear HQ s2 s6 s7
  replace hE := (hE.trans hE8).trans hE9
  replace hbg := (hbg.ext hE8).ext hE9
  go_wp2_with fail
  refine (kept_list hbg (hx.ext hE) gx).mono ?_
  rintro e w10 ⟨rfl, hE10⟩
  have E7 := (hE8.trans hE9).trans hE10
  replace hE := hE.trans hE10
  replace hbg := hbg.ext hE10
  replace ho2 := own_ext ho2 E7
  replace ho3 := own_ext ho3 E7
  replace ho4 := own_ext ho4 E7
  replace ho5 := own_ext ho5 E7
  replace ho6 := own_ext ho6 E7
  replace hB := E7.blk hB
  have z10 := E7.size
  clear hE8 hE9 hE10 E7
  obtain ⟨room, hrm⟩ : ∃ r, [markV x.length, markV (x.length + 1)] = r := ⟨_, rfl⟩
  have hRL : room.length = 2 := by rw [← hrm]; rfl
  unfold roomed at hbg
  rw [hrm] at hbg
  have hbg0 := hbg
  clear hrm
  have HRL := Lib.hid hRL
  clear hRL
  go_wp2
  go_loopw [16] (fun ii W => ∃ (k : Nat) (cur : List Vl), k ≤ x.length ∧ ii = .int .i64 k ∧ Hid (cur.length = x.length) ∧ Hid (∀ v ∈ cur, v.Ok ∧ v.text.length ≤ 1099511627776) ∧ VBlk W g (cur ++ room) ∧ Exc (fun q _ => q = g) w10 W) (fun ii _ => x.length - (intOf ii).toNat)
  case atStart => exact ⟨0, x, Nat.zero_le _, rfl, Lib.hid rfl, Lib.hid (fun v hv => ⟨hx.ok v hv, tx v hv⟩), hbg, exc_refl _ _⟩
  case round =>
    clear hbg
    obtain ⟨k, cur, hk, rfl, HC, HV, hbg, hX⟩ := hrel
    have hEr := hX.to_ext hE (fun k o hd => by omega)
    by_cases hka : k < x.length
    · by_cases hkb : k < y.length
      · obtain ⟨v, hv⟩ : ∃ v, y[k]? = some v := ⟨_, List.getElem?_eq_getElem hkb⟩
        have hvm := List.mem_of_getElem? hv
        have HV3 : Hid (∀ u ∈ cur.set k v, u.Ok ∧ u.text.length ≤ 1099511627776) := Lib.hid (fun u hu => by
          rcases List.mem_or_eq_of_mem_set hu with h | rfl
          · exact HV.out u h
          · exact ⟨hy.ok _ hvm, ty _ hvm⟩)
        have HC3 : Hid ((cur.set k v).length = x.length) := Lib.hid (by rw [List.length_set]; exact HC.out)
        obtain ⟨bb, ob', rfl, hcb⟩ := (hy.ext hEr).dAt hv
        obtain ⟨c0, c1, c2', c3', c4', c5', c6'⟩ := hcb wr (Below.refl _ _)
        clear hcb hv hvm
        have hkl : k < (cur ++ room).length := by rw [List.length_append, HC.out]; omega
        have e3 : (cur ++ room).set k v = cur.set k v ++ room := by rw [List.set_append_left _ _ (by rw [HC.out]; exact hka)]
        have HE3 := Lib.hid e3
        clear e3
        go_wp2_with (first | (go_at_call 34; refine (value_any (v := v)).mono ?_; rintro e w11 ⟨rfl, hE11⟩) | (refine wpList_store_val rfl (.tmp 89) (.tmp 88) rfl g k _ v rfl rfl (hbg.ext hE11) hkl ?_; intro w12 hb12 hg12))
        rw [HE3.out] at hb12
        have hX3 := (hX.trans (Exc.of_ext hE11)).trans (Exc.of_only (D := fun q _ => q = g) hg12 (fun _ _ => rfl))
        clear hX hbg hg12 hE11 hEr
        go_roundw
        case rel => exact ⟨k + 1, cur.set k v, by omega, by go_num, HC3, HV3, hb12, hX3⟩
        case measure => simp [intOf]; omega
      · clear hk
        obtain ⟨wa, hwa⟩ : ∃ W, W = wr := ⟨_, rfl⟩
        subst hwa
        have hvb : VBlk wa g (cur ++ room) := hbg
        have pc : PL wa (some ⟨g, 0, none⟩) (x.length + 2) cur := by
          have := hvb.pl (m := cur) (by simp) (by rw [List.length_append, HC.out, HRL.out]; exact gx) (fun v hv => (HV.out v hv).1)
          rwa [show (cur ++ room).length = x.length + 2 by rw [List.length_append, HC.out, HRL.out]] at this
        have K1 : KeepR 5 1 w.heap.size w10 wa := KeepR.of_exc hX hbg0 (by decide)
        have r2 := K1 _ _ _ (own_mono ho2 (by omega))
        have r3 := K1 _ _ _ (own_mono ho3 (by omega))
        have r4 := K1 _ _ _ (own_mono ho4 (by omega))
        have r5 := K1 _ _ _ (own_mono ho5 (by omega))
        have r6 := K1 _ _ _ (own_mono ho6 (by omega))
        have hBr := hX.blk hB (by have := (Array.getElem?_eq_some_iff.1 hvb).1; have := z2; intro he; unfold VBlk at hbg0; rw [← he] at hbg0; rw [hB] at hbg0; injection hbg0 with hbg0; injection hbg0 with _ h2; exact absurd h2 (by decide))
        have zr := hX.size
        clear hX K1 ho2 ho3 ho4 ho5 ho6 hB hbg hbg0 hvb
        go_wp2_with (at_make; refine wpList_make_any _ rfl _ _ 23 rfl 51 i7 _ 7 Try.underlying23 hi7 hz70 hz71 _ _ _ _ x.length x.length rfl rfl (by omega) (by omega) (Nat.le_refl _) (by rw [hz72]; omega) (by omega) ?_; intro w11 hb11 hg11)
        obtain ⟨xs0, ho0⟩ := own_made (B := wa.heap.size) hb11 (Nat.le_refl _) (by simp [maxLen]; omega)
        have hE11 := ext_make hg11
        clear hb11 hg11
        go_loopw [18] (fun ii W => ∃ (k : Nat) (xs : List Value), k ≤ x.length ∧ ii = .int .i64 k ∧ W.ownsRow wa.heap.size 51 7 (.slice (some ⟨wa.heap.size, 0, none⟩) x.length x.length) x.length xs ∧ Hid (xs.take (k * 7) = (cur.take k).flatMap Vl.dc) ∧ Ext wa W) (fun ii _ => x.length - (intOf ii).toNat)
        case atStart => exact ⟨0, xs0, Nat.zero_le _, rfl, ho0, Lib.hid (by simp), hE11⟩
        case round =>
          clear ho0 hE11
          obtain ⟨k, xs, hk, rfl, ho, HT, hE11⟩ := hrel
          by_cases hlt : k < x.length
          · obtain ⟨v, hv⟩ : ∃ v, cur[k]? = some v := ⟨_, List.getElem?_eq_getElem (by rw [HC.out]; exact hlt)⟩
            obtain ⟨bb, off, hAe, hc⟩ := (pc.ext hE11).pAt hv
            injection hAe with hAe
            injection hAe with h1 h2
            subst h1 h2
            obtain ⟨c0, c1, c2', c3', c4', c5'⟩ := hc _ (Below.refl _ _)
            simp only [Nat.zero_add] at c0 c1 c2' c3' c4' c5'
            have HT3 : Hid ((xs.take (k * 7) ++ v.dc ++ xs.drop ((k + 1) * 7)).take ((k + 1) * 7) = (cur.take (k + 1)).flatMap Vl.dc) := Lib.hid (by
              obtain ⟨h1, rfl⟩ := List.getElem?_eq_some_iff.1 hv
              have hl7 : (xs.take (k * 7)).length = k * 7 := by rw [List.length_take, ho.1]; omega
              rw [List.take_left' (by rw [List.length_append, hl7, len_dc]; omega), HT.out, List.take_succ_eq_append_getElem h1, List.flatMap_append, List.flatMap_cons, List.flatMap_nil, List.append_nil])
            clear hc hv
            go_wp2_with (first | (go_at_call 31; refine (bits_any (v := v)).mono ?_; rintro e w12 ⟨rfl, hE12⟩) | (refine wpList_store_own rfl 51 (.tmp 106) (.tmp 105) rfl _ x.length x.length v.dc rfl rfl (own_ext ho hE12) hlt rfl (by kernel_rfl) (one_dcv v) ?_; intro w13 ho13 hg13))
            have hE13 := ext_only (hE11.trans hE12) hg13 (Nat.le_refl _)
            clear hE11 hE12 hg13 ho
            go_roundw
            case rel => exact ⟨k + 1, _, by omega, by go_num, ho13, HT3, hE13⟩
            case measure => simp [intOf]; omega
          · obtain rfl : k = x.length := by omega
            have hTT : xs = cur.flatMap Vl.dc := by
              have := HT.out
              rwa [List.take_of_length_le (by rw [ho.1]; exact Nat.le_refl _), List.take_of_length_le (by rw [HC.out]; exact Nat.le_refl _)] at this
            subst hTT
            have hown : OwnD wa.heap.size wr (some ⟨wa.heap.size, 0, none⟩) x.length cur := by
              unfold OwnD OwnV
              rw [HC.out]; exact ho
            have dc := hown.vl len_dc (by rw [HC.out]; exact hl) (fun v hv => (HV.out v hv).1)
            have tc : ∀ v ∈ cur, v.text.length ≤ 1099511627776 := fun v hv => (HV.out v hv).2
            have HTC := Lib.hid tc
            replace pc := pc.ext hE11
            have HT1 := fun w B d => @tEncode_any w B d cur
            have HD1 := fun w B d => @dEncode_any w B d cur
            have hlc := length_encO cur
            generalize encE cur = ec at *
            generalize encO cur = lc at *
            simp only [HC.out] at HT1 HD1
            clear hown ho tc HT
            replace r2 := own_ext r2 hE11
            replace r3 := own_ext r3 hE11
            replace r4 := own_ext r4 hE11
            replace r5 := own_ext r5 hE11
            replace r6 := own_ext r6 hE11
            replace hBr := hE11.blk hBr
            have zz := hE11.size
            replace hEr := hEr.trans hE11
            clear hE11
            go_wp2_with fail
            refine (HT1 _ _ _ pc HTC.out).mono ?_
            rintro e w14 ⟨A14, c14, rfl, ho14, hE14⟩
            go_wp2_with fail
            refine (HD1 _ _ _ (dc.ext hE14) HTC.out).mono ?_
            rintro e w15 ⟨A15, c15, rfl, ho15, hE15⟩
            clear HT1 HD1 pc dc
            have f14 := fun q hq => ho14.lt q hq
            have HQ := eqBytes_any ((ho14.ext hE15).sl (by omega)) (ho15.sl (by omega))
            rw [eqB_self] at HQ
            go_wp2_with fail
            refine HQ.mono ?_
            rintro e w16 ⟨rfl, hE16⟩
            clear HQ ho15
            have E16 := (hE14.trans hE15).trans hE16
            have y14 := hE14.size
            have r14 := own_mono (B' := w.heap.size) (own_ext ho14 (hE15.trans hE16)) (by omega)
            replace r2 := own_ext r2 E16
            replace r3 := own_ext r3 E16
            replace r4 := own_ext r4 E16
            replace r5 := own_ext r5 E16
            replace r6 := own_ext r6 E16
            replace hBr := E16.blk hBr
            replace hEr := hEr.trans E16
            have y16 := E16.size
            clear hE14 hE15 hE16 E16 ho14
            have q0 := cell_of_row w16 w3.heap.size 0 _ _ _ hBr
            have q1 := cell_of_row w16 w3.heap.size 1 _ _ _ hBr
            simp only [List.getElem?_toArray, List.getElem?_cons_zero, List.getElem?_cons_succ] at q0 q1
            have hA : ApartH [⟨A2, lo.length, c2⟩, ⟨A3, lo.length, c3⟩, ⟨A4, up.length, c4⟩, ⟨A5, lp.length, c5⟩, ⟨A6, lo.length, c6⟩, ⟨A14, lc.length, c14⟩] := apart6 f2 f3 f4 hns f5 f6 f14 (Nat.le_refl _) (by omega) (Nat.le_refl _) (by omega) (by omega) (by omega) (by omega)
            have hal := ext_alloc w16 (Obj.cells #[.slice A2 lo.length c2, .slice A3 lo.length c3, .slice A4 up.length c4, .slice A5 lp.length c5, .slice A6 lo.length c6, .slice A14 lc.length c14] 30)
            have HP := rapart_any (hs := [⟨A2, lo.length, c2⟩, ⟨A3, lo.length, c3⟩, ⟨A4, up.length, c4⟩, ⟨A5, lp.length, c5⟩, ⟨A6, lo.length, c6⟩, ⟨A14, lc.length, c14⟩]) (cl := 6) (B := w.heap.size) (heap_alloc_new w16 (Obj.cells #[.slice A2 lo.length c2, .slice A3 lo.length c3, .slice A4 up.length c4, .slice A5 lp.length c5, .slice A6 lo.length c6, .slice A14 lc.length c14] 30)) (fun j h hj => by
              match j, hj with
              | 0, hj => injection hj with hj; subst hj; rfl
              | 1, hj => injection hj with hj; subst hj; rfl
              | 2, hj => injection hj with hj; subst hj; rfl
              | 3, hj => injection hj with hj; subst hj; rfl
              | 4, hj => injection hj with hj; subst hj; rfl
              | 5, hj => injection hj with hj; subst hj; rfl) (by simp) (by simp) (fun h hh => by
              simp only [List.mem_cons, List.not_mem_nil, or_false] at hh
              rcases hh with rfl | rfl | rfl | rfl | rfl | rfl <;> simp only <;> omega) (by simp; have := hEr.size; omega) hA (fun j h hj => by
              match j, hj with
              | 0, hj => injection hj with hj; subst hj; exact ⟨_, own_ext r2 hal⟩
              | 1, hj => injection hj with hj; subst hj; exact ⟨_, own_ext r3 hal⟩
              | 2, hj => injection hj with hj; subst hj; exact ⟨_, own_ext r4 hal⟩
              | 3, hj => injection hj with hj; subst hj; exact ⟨_, own_ext r5 hal⟩
              | 4, hj => injection hj with hj; subst hj; exact ⟨_, own_ext r6 hal⟩
              | 5, hj => injection hj with hj; subst hj; exact ⟨_, own_ext r14 hal⟩)
            clear r2 r3 r4 r5 r6 r14 hA f2 f3 f4 f5 f6 f14 hns hBr
            go_wp2_with fail
            refine HP.mono ?_
            rintro e w17 ⟨rfl, hXX⟩
            have hE17 := hXX.to_ext (hEr.trans hal) (fun k o hd => hd)
            clear HP hXX q0 q1
            go_wp2_with fail
            refine works_any.mono ?_
            rintro e w18 ⟨rfl, hE18⟩
            go_wp2
            go_ret
            exact ⟨rfl, hE17.trans hE18⟩
    · obtain rfl : k = x.length := by omega
      obtain ⟨wa, hwa⟩ : ∃ W, W = wr := ⟨_, rfl⟩
      subst hwa
      have hvb : VBlk wa g (cur ++ room) := hbg
      have pc : PL wa (some ⟨g, 0, none⟩) (x.length + 2) cur := by
        have := hvb.pl (m := cur) (by simp) (by rw [List.length_append, HC.out, HRL.out]; exact gx) (fun v hv => (HV.out v hv).1)
        rwa [show (cur ++ room).length = x.length + 2 by rw [List.length_append, HC.out, HRL.out]] at this
      have K1 : KeepR 5 1 w.heap.size w10 wa := KeepR.of_exc hX hbg0 (by decide)
      have r2 := K1 _ _ _ (own_mono ho2 (by omega))
      have r3 := K1 _ _ _ (own_mono ho3 (by omega))
      have r4 := K1 _ _ _ (own_mono ho4 (by omega))
      have r5 := K1 _ _ _ (own_mono ho5 (by omega))
      have r6 := K1 _ _ _ (own_mono ho6 (by omega))
      have hBr := hX.blk hB (by have := (Array.getElem?_eq_some_iff.1 hvb).1; have := z2; intro he; unfold VBlk at hbg0; rw [← he] at hbg0; rw [hB] at hbg0; injection hbg0 with hbg0; injection hbg0 with _ h2; exact absurd h2 (by decide))
      have zr := hX.size
      clear hX K1 ho2 ho3 ho4 ho5 ho6 hB hbg hbg0 hvb
      go_wp2_with (at_make; refine wpList_make_any _ rfl _ _ 23 rfl 51 i7 _ 7 Try.underlying23 hi7 hz70 hz71 _ _ _ _ x.length x.length rfl rfl (by omega) (by omega) (Nat.le_refl _) (by rw [hz72]; omega) (by omega) ?_; intro w11 hb11 hg11)
      obtain ⟨xs0, ho0⟩ := own_made (B := wa.heap.size) hb11 (Nat.le_refl _) (by simp [maxLen]; omega)
      have hE11 := ext_make hg11
      clear hb11 hg11
      go_loopw [18] (fun ii W => ∃ (k : Nat) (xs : List Value), k ≤ x.length ∧ ii = .int .i64 k ∧ W.ownsRow wa.heap.size 51 7 (.slice (some ⟨wa.heap.size, 0, none⟩) x.length x.length) x.length xs ∧ Hid (xs.take (k * 7) = (cur.take k).flatMap Vl.dc) ∧ Ext wa W) (fun ii _ => x.length - (intOf ii).toNat)
      case atStart => exact ⟨0, xs0, Nat.zero_le _, rfl, ho0, Lib.hid (by simp), hE11⟩
      case round =>
        clear ho0 hE11
        obtain ⟨k, xs, hk, rfl, ho, HT, hE11⟩ := hrel
        by_cases hlt : k < x.length
        · obtain ⟨v, hv⟩ : ∃ v, cur[k]? = some v := ⟨_, List.getElem?_eq_getElem (by rw [HC.out]; exact hlt)⟩
          obtain ⟨bb, off, hAe, hc⟩ := (pc.ext hE11).pAt hv
          injection hAe with hAe
          injection hAe with h1 h2
          subst h1 h2
          obtain ⟨c0, c1, c2', c3', c4', c5'⟩ := hc _ (Below.refl _ _)
          simp only [Nat.zero_add] at c0 c1 c2' c3' c4' c5'
          have HT3 : Hid ((xs.take (k * 7) ++ v.dc ++ xs.drop ((k + 1) * 7)).take ((k + 1) * 7) = (cur.take (k + 1)).flatMap Vl.dc) := Lib.hid (by
            obtain ⟨h1, rfl⟩ := List.getElem?_eq_some_iff.1 hv
            have hl7 : (xs.take (k * 7)).length = k * 7 := by rw [List.length_take, ho.1]; omega
            rw [List.take_left' (by rw [List.length_append, hl7, len_dc]; omega), HT.out, List.take_succ_eq_append_getElem h1, List.flatMap_append, List.flatMap_cons, List.flatMap_nil, List.append_nil])
          clear hc hv
          go_wp2_with (first | (go_at_call 31; refine (bits_any (v := v)).mono ?_; rintro e w12 ⟨rfl, hE12⟩) | (refine wpList_store_own rfl 51 (.tmp 106) (.tmp 105) rfl _ x.length x.length v.dc rfl rfl (own_ext ho hE12) hlt rfl (by kernel_rfl) (one_dcv v) ?_; intro w13 ho13 hg13))
          have hE13 := ext_only (hE11.trans hE12) hg13 (Nat.le_refl _)
          clear hE11 hE12 hg13 ho
          go_roundw
          case rel => exact ⟨k + 1, _, by omega, by go_num, ho13, HT3, hE13⟩
          case measure => simp [intOf]; omega
        · obtain rfl : k = x.length := by omega
          have hTT : xs = cur.flatMap Vl.dc := by
            have := HT.out
            rwa [List.take_of_length_le (by rw [ho.1]; exact Nat.le_refl _), List.take_of_length_le (by rw [HC.out]; exact Nat.le_refl _)] at this
          subst hTT
          have hown : OwnD wa.heap.size wr (some ⟨wa.heap.size, 0, none⟩) x.length cur := by
            unfold OwnD OwnV
            rw [HC.out]; exact ho
          have dc := hown.vl len_dc (by rw [HC.out]; exact hl) (fun v hv => (HV.out v hv).1)
          have tc : ∀ v ∈ cur, v.text.length ≤ 1099511627776 := fun v hv => (HV.out v hv).2
          have HTC := Lib.hid tc
          replace pc := pc.ext hE11
          have HT1 := fun w B d => @tEncode_any w B d cur
          have HD1 := fun w B d => @dEncode_any w B d cur
          have hlc := length_encO cur
          generalize encE cur = ec at *
          generalize encO cur = lc at *
          simp only [HC.out] at HT1 HD1
          clear hown ho tc HT
          replace r2 := own_ext r2 hE11
          replace r3 := own_ext r3 hE11
          replace r4 := own_ext r4 hE11
          replace r5 := own_ext r5 hE11
          replace r6 := own_ext r6 hE11
          replace hBr := hE11.blk hBr
          have zz := hE11.size
          replace hEr := hEr.trans hE11
          clear hE11
          go_wp2_with fail
          refine (HT1 _ _ _ pc HTC.out).mono ?_
          rintro e w14 ⟨A14, c14, rfl, ho14, hE14⟩
          go_wp2_with fail
          refine (HD1 _ _ _ (dc.ext hE14) HTC.out).mono ?_
          rintro e w15 ⟨A15, c15, rfl, ho15, hE15⟩
          clear HT1 HD1 pc dc
          have f14 := fun q hq => ho14.lt q hq
          have HQ := eqBytes_any ((ho14.ext hE15).sl (by omega)) (ho15.sl (by omega))
          rw [eqB_self] at HQ
          go_wp2_with fail
          refine HQ.mono ?_
          rintro e w16 ⟨rfl, hE16⟩
          clear HQ ho15
          have E16 := (hE14.trans hE15).trans hE16
          have y14 := hE14.size
          have r14 := own_mono (B' := w.heap.size) (own_ext ho14 (hE15.trans hE16)) (by omega)
          replace r2 := own_ext r2 E16
          replace r3 := own_ext r3 E16
          replace r4 := own_ext r4 E16
          replace r5 := own_ext r5 E16
          replace r6 := own_ext r6 E16
          replace hBr := E16.blk hBr
          replace hEr := hEr.trans E16
          have y16 := E16.size
          clear hE14 hE15 hE16 E16 ho14
          have q0 := cell_of_row w16 w3.heap.size 0 _ _ _ hBr
          have q1 := cell_of_row w16 w3.heap.size 1 _ _ _ hBr
          simp only [List.getElem?_toArray, List.getElem?_cons_zero, List.getElem?_cons_succ] at q0 q1
          have hA : ApartH [⟨A2, lo.length, c2⟩, ⟨A3, lo.length, c3⟩, ⟨A4, up.length, c4⟩, ⟨A5, lp.length, c5⟩, ⟨A6, lo.length, c6⟩, ⟨A14, lc.length, c14⟩] := apart6 f2 f3 f4 hns f5 f6 f14 (Nat.le_refl _) (by omega) (Nat.le_refl _) (by omega) (by omega) (by omega) (by omega)
          have hal := ext_alloc w16 (Obj.cells #[.slice A2 lo.length c2, .slice A3 lo.length c3, .slice A4 up.length c4, .slice A5 lp.length c5, .slice A6 lo.length c6, .slice A14 lc.length c14] 30)
          have HP := rapart_any (hs := [⟨A2, lo.length, c2⟩, ⟨A3, lo.length, c3⟩, ⟨A4, up.length, c4⟩, ⟨A5, lp.length, c5⟩, ⟨A6, lo.length, c6⟩, ⟨A14, lc.length, c14⟩]) (cl := 6) (B := w.heap.size) (heap_alloc_new w16 (Obj.cells #[.slice A2 lo.length c2, .slice A3 lo.length c3, .slice A4 up.length c4, .slice A5 lp.length c5, .slice A6 lo.length c6, .slice A14 lc.length c14] 30)) (fun j h hj => by
            match j, hj with
            | 0, hj => injection hj with hj; subst hj; rfl
            | 1, hj => injection hj with hj; subst hj; rfl
            | 2, hj => injection hj with hj; subst hj; rfl
            | 3, hj => injection hj with hj; subst hj; rfl
            | 4, hj => injection hj with hj; subst hj; rfl
            | 5, hj => injection hj with hj; subst hj; rfl) (by simp) (by simp) (fun h hh => by
            simp only [List.mem_cons, List.not_mem_nil, or_false] at hh
            rcases hh with rfl | rfl | rfl | rfl | rfl | rfl <;> simp only <;> omega) (by simp; have := hEr.size; omega) hA (fun j h hj => by
            match j, hj with
            | 0, hj => injection hj with hj; subst hj; exact ⟨_, own_ext r2 hal⟩
            | 1, hj => injection hj with hj; subst hj; exact ⟨_, own_ext r3 hal⟩
            | 2, hj => injection hj with hj; subst hj; exact ⟨_, own_ext r4 hal⟩
            | 3, hj => injection hj with hj; subst hj; exact ⟨_, own_ext r5 hal⟩
            | 4, hj => injection hj with hj; subst hj; exact ⟨_, own_ext r6 hal⟩
            | 5, hj => injection hj with hj; subst hj; exact ⟨_, own_ext r14 hal⟩)
          clear r2 r3 r4 r5 r6 r14 hA f2 f3 f4 f5 f6 f14 hns hBr
          go_wp2_with fail
          refine HP.mono ?_
          rintro e w17 ⟨rfl, hXX⟩
          have hE17 := hXX.to_ext (hEr.trans hal) (fun k o hd => hd)
          clear HP hXX q0 q1
          go_wp2_with fail
          refine works_any.mono ?_
          rintro e w18 ⟨rfl, hE18⟩
          go_wp2
          go_ret
          exact ⟨rfl, hE17.trans hE18⟩
end Go.Proofs.Ytbjfgnkjmfcokaa
