/- The walk of TupleFreshLists. No condition but that what comes in lies in memory. -/
import Derived.Test.YtbjfgnkjmfcokaaTworks
import Derived.Test.YtbjfgnkjmfcokaaTapart
import Derived.Test.YtbjfgnkjmfcokaaSpare
namespace Go.Proofs.Ytbjfgnkjmfcokaa
set_option linter.unusedVariables false
open Go.RowKit Go.Proofs
/-- Rows in rising blocks lie apart. -/
theorem apart_rising {hs : List Hd} (bd : Nat → Nat) (hm : ∀ j, bd j ≤ bd (j + 1)) (h : ∀ (j : Nat) (h : Hd) (q : Nat), hs[j]? = some h → h.v.ownBlock = some q → bd j ≤ q ∧ q < bd (j + 1)) : ApartH hs := by
  have hmm : ∀ a b, a ≤ b → bd a ≤ bd b := fun a b hab => by
    induction hab with
    | refl => exact Nat.le_refl _
    | step _ ih => exact Nat.le_trans ih (hm _)
  intro j1 j2 h1 h2 q e1 e2 hne q1 q2
  have a1 := h j1 h1 q e1 q1
  have a2 := h j2 h2 q e2 q2
  rcases Nat.lt_or_ge j1 j2 with hl | hl
  · have := hmm (j1 + 1) j2 hl; omega
  · have := hmm (j2 + 1) j1 (by omega); omega
theorem KeepR.trans {e : TypeId} {n B : Nat} {a b c : World} (h : KeepR e n B a b) (k : KeepR e n B b c) : KeepR e n B a c := fun v i xs ho => k _ _ _ (h _ _ _ ho)
theorem apart4 {T : TypeId} {s1 s2 s3 s4 : Nat} {n : Nat} {h1 h2 h3 h4 : Hd} {x1 x2 x3 x4 : List Value} {w1 w2 w3 w4 : World}
    (o1 : w1.ownsRow s1 T n h1.v h1.k x1) (o2 : w2.ownsRow s2 T n h2.v h2.k x2) (o3 : w3.ownsRow s3 T n h3.v h3.k x3) (o4 : w4.ownsRow s4 T n h4.v h4.k x4)
    (b1 : w1.heap.size ≤ s2) (b2 : w2.heap.size ≤ s3) (b3 : w3.heap.size ≤ s4) (c1 : s1 ≤ w1.heap.size) (c2 : s2 ≤ w2.heap.size) (c3 : s3 ≤ w3.heap.size) (c4 : s4 ≤ w4.heap.size) : ApartH [h1, h2, h3, h4] := by
  refine apart_rising (fun j => match j with | 0 => s1 | 1 => s2 | 2 => s3 | 3 => s4 | _ => w4.heap.size) (fun j => ?_) (fun j h q hj hq => ?_)
  · match j with
    | 0 => show s1 ≤ s2; omega
    | 1 => show s2 ≤ s3; omega
    | 2 => show s3 ≤ s4; omega
    | 3 => show s4 ≤ w4.heap.size; omega
    | _ + 4 => exact Nat.le_refl _
  · match j, hj with
    | 0, hj => injection hj with hj; subst hj; have := o1.lt q hq; exact ⟨this.1, by show q < s2; omega⟩
    | 1, hj => injection hj with hj; subst hj; have := o2.lt q hq; exact ⟨this.1, by show q < s3; omega⟩
    | 2, hj => injection hj with hj; subst hj; have := o3.lt q hq; exact ⟨this.1, by show q < s4; omega⟩
    | 3, hj => injection hj with hj; subst hj; exact o4.lt q hq
set_option maxRecDepth 100000 in
set_option maxHeartbeats 2000000 in
theorem freshlists_any {A B : Option Addr} {c d : Nat} {a b : List UInt8} {w : World} (h : Sl w A c a) (hb : Sl w B d b) :
    Calls Try.prog 10 #[.slice A a.length c, .slice B b.length d] w fun e w' => e = .returned (.bool true) ∧ Ext w w' := by
  have hl := h.len
  have hlb := hb.len
  have HT1 := fun w B d => @tDecode_any w B d a
  have HT2 := fun w B d => @tDecode_any w B d b
  have HD1 := fun w => @dDecode_any w A c a
  have hol := decO_len a
  have hok : ∀ v ∈ decO a, v.Ok := fun v hv => (decO_mem hv).2
  have hol2 := decO_len b
  generalize decO a = o at *
  generalize decE a = en at *
  generalize decO b = ob at *
  generalize decE b = eb at *
  have HO := Lib.hid hok
  clear hok
  go_enter Try.func10, Try.ntmps10
  go_wp2_with fail
  refine (spare_any h).mono ?_
  rintro e w1 ⟨g, rfl, hg, hsp, hE1⟩
  go_wp2_with fail
  refine (HT1 _ _ _ (Spared.sl hsp hl)).mono ?_
  rintro e w2 ⟨A2, c2, rfl, ho2, hE2⟩
  have hE := hE1.trans hE2
  replace hsp := Blk.ext hsp hE2
  go_wp2_with fail
  refine (copyBytes_any (hb.ext hE)).mono ?_
  rintro e w3 ⟨A3, c3, rfl, ho3, hE3⟩
  replace hE := hE.trans hE3
  replace hsp := Blk.ext hsp hE3
  go_wp2_with fail
  refine (HT2 _ _ _ (ho3.sl hlb)).mono ?_
  rintro e w4 ⟨A4, c4, rfl, ho4, hE4⟩
  replace hE := hE.trans hE4
  replace hsp := Blk.ext hsp hE4
  clear HT2 ho3
  go_wp2_with fail
  refine (HT1 _ _ _ (Spared.sl hsp hl)).mono ?_
  rintro e w5 ⟨A5, c5, rfl, ho5, hE5⟩
  replace hE := hE.trans hE5
  replace hsp := Blk.ext hsp hE5
  clear HT1
  go_wp2_with fail
  refine (HD1 _ (h.ext hE)).mono ?_
  rintro e w6 ⟨A6, c6, rfl, ho6, hE6⟩
  replace hE := hE.trans hE6
  replace hsp := Blk.ext hsp hE6
  clear HD1
  -- what lies where
  have K2 : KeepR 56 6 w.heap.size w2 w6 := KeepR.of_ext (((hE3.trans hE4).trans hE5).trans hE6)
  have K4 : KeepR 56 6 w.heap.size w4 w6 := KeepR.of_ext (hE5.trans hE6)
  have K5 : KeepR 56 6 w.heap.size w5 w6 := KeepR.of_ext hE6
  have z1 := hE1.size
  have z2 := hE2.size
  have z3 := hE3.size
  have z4 := hE4.size
  have z5 := hE5.size
  have z6 := hE6.size
  have p2 := (ho2.ext (((hE3.trans hE4).trans hE5).trans hE6)).vl len_pc (by omega) HO.out
  have p5 := (ho5.ext hE6).vl len_pc (by omega) HO.out
  have d6 := ho6.vl len_dc (by omega) HO.out
  clear hE1 hE2 hE3 hE4 hE5 hE6 ho6
  have HT := like_any p2 d6
  rw [decide_eq_true rfl] at HT
  go_wp2_with fail
  refine HT.mono ?_
  rintro e w7 ⟨rfl, hE7⟩
  have HT := like_any (p5.ext hE7) (d6.ext hE7)
  rw [decide_eq_true rfl] at HT
  go_wp2_with fail
  refine HT.mono ?_
  rintro e w8 ⟨rfl, hE8⟩
  clear HT p2 p5 d6
  replace hE := (hE.trans hE7).trans hE8
  replace hsp := Blk.ext (Blk.ext hsp hE7) hE8
  go_wp2_with fail
  refine (kept_any hsp (h.ext hE)).mono ?_
  rintro e w9 ⟨rfl, hE9⟩
  replace hE := hE.trans hE9
  replace hsp := Blk.ext hsp hE9
  have K9 : KeepR 56 6 w.heap.size w6 w9 := KeepR.of_ext ((hE7.trans hE8).trans hE9)
  replace K2 := K2.trans K9
  replace K4 := K4.trans K9
  replace K5 := K5.trans K9
  have z9 : w6.heap.size ≤ w9.heap.size := ((hE7.trans hE8).trans hE9).size
  clear hE7 hE8 hE9 K9
  go_wp2
  go_loopw [14] (fun ii W => ∃ (k : Nat) (x : List UInt8), k ≤ a.length ∧ ii = .int .i64 k ∧ Hid (x.length = a.length) ∧ Blk 5 W g (x ++ marks a.length) ∧ KeepR 56 6 w.heap.size w9 W ∧ Ext w W ∧ w9.heap.size ≤ W.heap.size) (fun ii _ => a.length - (intOf ii).toNat)
  case atStart => exact ⟨0, a, Nat.zero_le _, rfl, Lib.hid rfl, hsp, fun _ _ _ h => h, hE, Nat.le_refl _⟩
  case round =>
    clear hsp hE
    obtain ⟨k, x, hk, rfl, HX, hsp, hK9, hE, hzr⟩ := hrel
    by_cases hka : k < a.length
    · by_cases hkb : k < b.length
      · have hba : k < b.length := hkb
        have hf := hsp.frozen k
        obtain ⟨bb, ob', rfl, hcb⟩ := (hb.ext hE).rd (by omega)
        have hcb2 := hcb k hkb
        have hkx : k < (x ++ marks a.length).length := by rw [List.length_append, HX.out]; omega
        have hcx := hsp.cell hkx
        obtain ⟨y, hy⟩ : ∃ y : UInt8, at8 b k = (y.toNat : Int) := ⟨b[k], by simp [at8, hkb]⟩
        rw [hy] at hcb2
        obtain ⟨z, hz⟩ : ∃ z, at8 (x ++ marks a.length) k = z := ⟨_, rfl⟩
        rw [hz] at hcx
        clear hz hy hcb hkx
        have hsp3 := hsp.set_ k y
        have e3 : (x ++ marks a.length).set k y = x.set k y ++ marks a.length := by rw [List.set_append_left _ _ (by rw [HX.out]; exact hka)]
        rw [e3] at hsp3
        have hE3 := ext_store hE (p := ⟨g, k, none⟩) (by omega) (.int .u8 (y.toNat : Int))
        have hK3 : KeepR 56 6 w.heap.size wr (wr.setCell ⟨g, k, none⟩ (.int .u8 (y.toNat : Int))) := KeepR.of_grown (row := some g) ⟨rfl, rfl, rfl, by simp [World.setCell], fun q hq hn => Below.heap_setCell wr _ _ q (by rintro rfl; exact hn rfl)⟩ (fun gl hgl => by injection hgl with hgl; subst hgl; exact ⟨_, _, _, hsp, by decide⟩)
        have HX3 : Hid ((x.set k y).length = a.length) := Lib.hid (by rw [List.length_set]; exact HX.out)
        have hz3 : w9.heap.size ≤ (wr.setCell ⟨g, k, none⟩ (.int .u8 (y.toNat : Int))).heap.size := by simp [World.setCell]; exact hzr
        have hK10 := hK9.trans hK3
        clear hsp hK9 hK3 e3
        go_wp2
        go_roundw
        case rel => exact ⟨k + 1, x.set k y, by omega, by go_num, HX3, hsp3, hK10, hE3, hz3⟩
        case measure => simp [intOf]; omega
      · clear hk
        have s : Sl wr (some ⟨g, 0, none⟩) (a.length + 64) x := by
          have s := Blk.sl hsp (bs := x) (by simp) (by simp) (by rw [HX.out]; exact hl) (by rw [List.length_append, length_marks, HX.out]; omega)
          rwa [show (x ++ marks a.length).length = a.length + 64 by rw [List.length_append, length_marks, HX.out]] at s
        have HD := dDecode_any s
        have HT := fun W => @tDecode_any W (some ⟨g, 0, none⟩) (a.length + 64) x
        simp only [HX.out] at HD HT
        have hox := decO_len x
        have hokx : ∀ v ∈ decO x, v.Ok := fun v hv => (decO_mem hv).2
        generalize decO x = ox at *
        generalize decE x = ex at *
        have HOX := Lib.hid hokx
        clear hokx hsp
        go_wp2_with fail
        refine HD.mono ?_
        rintro e w11 ⟨A11, c11, rfl, ho11, hE11⟩
        go_wp2_with fail
        refine (HT _ (s.ext hE11)).mono ?_
        rintro e w12 ⟨A12, c12, rfl, ho12, hE12⟩
        have d11 := (ho11.vl len_dc (by omega) HOX.out).ext hE12
        have p12 := ho12.vl len_pc (by omega) HOX.out
        clear HD HT s
        have HT := like_any p12 d11
        rw [decide_eq_true rfl] at HT
        go_wp2_with fail
        refine HT.mono ?_
        rintro e w13 ⟨rfl, hE13⟩
        clear HT p12 d11 ho11
        have hK13 := hK9.trans (KeepR.of_ext ((hE11.trans hE12).trans hE13))
        have q11 := hE11.size
        have q12 := hE12.size
        have q13 := hE13.size
        have r2 := (K2.trans hK13) _ _ _ (own_mono ho2 z1)
        have r4 := (K4.trans hK13) _ _ _ (own_mono ho4 (by omega))
        have r5 := (K5.trans hK13) _ _ _ (own_mono ho5 (by omega))
        have r12 := own_ext (own_mono (B' := w.heap.size) ho12 (by omega)) hE13
        have hA : ApartH [⟨A2, o.length, c2⟩, ⟨A4, ob.length, c4⟩, ⟨A5, o.length, c5⟩, ⟨A12, ox.length, c12⟩] := apart4 ho2 ho4 ho5 ho12 z3 (Nat.le_refl _) (by omega) z2 z4 z5 q12
        replace hE := ((hE.trans hE11).trans hE12).trans hE13
        have hal := ext_alloc w13 (Obj.cells #[.slice A2 o.length c2, .slice A4 ob.length c4, .slice A5 o.length c5, .slice A12 ox.length c12] 24)
        have HP := tapart_any (hs := [⟨A2, o.length, c2⟩, ⟨A4, ob.length, c4⟩, ⟨A5, o.length, c5⟩, ⟨A12, ox.length, c12⟩]) (cl := 4) (B := w.heap.size) (heap_alloc_new w13 (Obj.cells #[.slice A2 o.length c2, .slice A4 ob.length c4, .slice A5 o.length c5, .slice A12 ox.length c12] 24)) (fun j h hj => by
          match j, hj with
          | 0, hj => injection hj with hj; subst hj; rfl
          | 1, hj => injection hj with hj; subst hj; rfl
          | 2, hj => injection hj with hj; subst hj; rfl
          | 3, hj => injection hj with hj; subst hj; rfl) (by simp) (by simp) (fun h hh => by
          simp only [List.mem_cons, List.not_mem_nil, or_false] at hh
          rcases hh with rfl | rfl | rfl | rfl <;> simp only <;> omega) (by simp; have := hE.size; omega) hA (fun j h hj => by
          match j, hj with
          | 0, hj => injection hj with hj; subst hj; exact ⟨_, own_ext r2 hal⟩
          | 1, hj => injection hj with hj; subst hj; exact ⟨_, own_ext r4 hal⟩
          | 2, hj => injection hj with hj; subst hj; exact ⟨_, own_ext r5 hal⟩
          | 3, hj => injection hj with hj; subst hj; exact ⟨_, own_ext r12 hal⟩)
        clear r2 r4 r5 r12 hA ho12 ho2 ho4 ho5 K2 K4 K5 hK13 hK9
        go_wp2_with fail
        refine HP.mono ?_
        rintro e w14 ⟨rfl, hX⟩
        have hE14 := hX.to_ext (hE.trans hal) (fun k o hd => hd)
        clear HP hX
        go_wp2_with fail
        refine works_any.mono ?_
        rintro e w15 ⟨rfl, hE15⟩
        go_wp2
        go_ret
        exact ⟨rfl, hE14.trans hE15⟩
    · obtain rfl : k = a.length := by omega
      have s : Sl wr (some ⟨g, 0, none⟩) (a.length + 64) x := by
        have s := Blk.sl hsp (bs := x) (by simp) (by simp) (by rw [HX.out]; exact hl) (by rw [List.length_append, length_marks, HX.out]; omega)
        rwa [show (x ++ marks a.length).length = a.length + 64 by rw [List.length_append, length_marks, HX.out]] at s
      have HD := dDecode_any s
      have HT := fun W => @tDecode_any W (some ⟨g, 0, none⟩) (a.length + 64) x
      simp only [HX.out] at HD HT
      have hox := decO_len x
      have hokx : ∀ v ∈ decO x, v.Ok := fun v hv => (decO_mem hv).2
      generalize decO x = ox at *
      generalize decE x = ex at *
      have HOX := Lib.hid hokx
      clear hokx hsp
      go_wp2_with fail
      refine HD.mono ?_
      rintro e w11 ⟨A11, c11, rfl, ho11, hE11⟩
      go_wp2_with fail
      refine (HT _ (s.ext hE11)).mono ?_
      rintro e w12 ⟨A12, c12, rfl, ho12, hE12⟩
      have d11 := (ho11.vl len_dc (by omega) HOX.out).ext hE12
      have p12 := ho12.vl len_pc (by omega) HOX.out
      clear HD HT s
      have HT := like_any p12 d11
      rw [decide_eq_true rfl] at HT
      go_wp2_with fail
      refine HT.mono ?_
      rintro e w13 ⟨rfl, hE13⟩
      clear HT p12 d11 ho11
      have hK13 := hK9.trans (KeepR.of_ext ((hE11.trans hE12).trans hE13))
      have q11 := hE11.size
      have q12 := hE12.size
      have q13 := hE13.size
      have r2 := (K2.trans hK13) _ _ _ (own_mono ho2 z1)
      have r4 := (K4.trans hK13) _ _ _ (own_mono ho4 (by omega))
      have r5 := (K5.trans hK13) _ _ _ (own_mono ho5 (by omega))
      have r12 := own_ext (own_mono (B' := w.heap.size) ho12 (by omega)) hE13
      have hA : ApartH [⟨A2, o.length, c2⟩, ⟨A4, ob.length, c4⟩, ⟨A5, o.length, c5⟩, ⟨A12, ox.length, c12⟩] := apart4 ho2 ho4 ho5 ho12 z3 (Nat.le_refl _) (by omega) z2 z4 z5 q12
      replace hE := ((hE.trans hE11).trans hE12).trans hE13
      have hal := ext_alloc w13 (Obj.cells #[.slice A2 o.length c2, .slice A4 ob.length c4, .slice A5 o.length c5, .slice A12 ox.length c12] 24)
      have HP := tapart_any (hs := [⟨A2, o.length, c2⟩, ⟨A4, ob.length, c4⟩, ⟨A5, o.length, c5⟩, ⟨A12, ox.length, c12⟩]) (cl := 4) (B := w.heap.size) (heap_alloc_new w13 (Obj.cells #[.slice A2 o.length c2, .slice A4 ob.length c4, .slice A5 o.length c5, .slice A12 ox.length c12] 24)) (fun j h hj => by
        match j, hj with
        | 0, hj => injection hj with hj; subst hj; rfl
        | 1, hj => injection hj with hj; subst hj; rfl
        | 2, hj => injection hj with hj; subst hj; rfl
        | 3, hj => injection hj with hj; subst hj; rfl) (by simp) (by simp) (fun h hh => by
        simp only [List.mem_cons, List.not_mem_nil, or_false] at hh
        rcases hh with rfl | rfl | rfl | rfl <;> simp only <;> omega) (by simp; have := hE.size; omega) hA (fun j h hj => by
        match j, hj with
        | 0, hj => injection hj with hj; subst hj; exact ⟨_, own_ext r2 hal⟩
        | 1, hj => injection hj with hj; subst hj; exact ⟨_, own_ext r4 hal⟩
        | 2, hj => injection hj with hj; subst hj; exact ⟨_, own_ext r5 hal⟩
        | 3, hj => injection hj with hj; subst hj; exact ⟨_, own_ext r12 hal⟩)
      clear r2 r4 r5 r12 hA ho12 ho2 ho4 ho5 K2 K4 K5 hK13 hK9
      go_wp2_with fail
      refine HP.mono ?_
      rintro e w14 ⟨rfl, hX⟩
      have hE14 := hX.to_ext (hE.trans hal) (fun k o hd => hd)
      clear HP hX
      go_wp2_with fail
      refine works_any.mono ?_
      rintro e w15 ⟨rfl, hE15⟩
      go_wp2
      go_ret
      exact ⟨rfl, hE14.trans hE15⟩
end Go.Proofs.Ytbjfgnkjmfcokaa
