/- Layer 3: the contract of the document's put. No condition but the bounds of the types, and that texts are no longer than 2^40. -/
import Derived.Test.YtbjfgnkjmfcokaaTrput
namespace Go.Proofs.Ytbjfgnkjmfcokaa
open Go.RowKit Go.Proofs
set_option linter.unusedVariables false
section
variable {w : World} {B c : Nat} {A : Option Addr} {bs : List UInt8} {k i : Int} {b : Bool} {r e m : Nat} {t : List UInt8}
set_option maxRecDepth 100000 in
set_option maxHeartbeats 400000 in
theorem rput_0 (hB : B ≤ w.heap.size) (hO : Own 5 B w A c bs) (hl : bs.length ≤ 1099511627776 + 16) :
    Calls Try.prog 44 #[.slice A bs.length c, (Vl.mk 0 b i r e m t).d] w (PutIn B w (bs ++ [1])) := by
  obtain ⟨i0, hi, hz0, hz1, hz2⟩ := info_parts infoU8
  obtain ⟨fin, hfin⟩ : ∃ fin, fin = bs ++ [1] := ⟨_, rfl⟩
  rw [← hfin]
  have HF := Lib.hid hfin
  clear hfin
  go_enter Try.func44, Try.ntmps44
  go_wp2_with (at_builtin; go_loud (refine wpList_append_own _ rfl _ _ 30 rfl B 5 i0 (.int .u8 0) 1 1 Try.underlying30 hi hz0 hz1 hz2 rfl (by decide) _ _ _ rfl (World.ownsRow.alloc (Own.ext hO (ext_alloc w _)) _) ⟨w.heap.size + 1, 0, none⟩ 1 1 [.int .u8 1] rfl rfl (Byte1.news (alloc_two _ _ _)) (by simp [Value.oneCell']) (by simp [maxLen]; omega) (by omega) (by simp; omega) ?_; intro v' w2 hown2 hgrow2 _); obtain ⟨A2, c2, rfl, ho2, hE2⟩ := own_push 1 (Exc.of_ext (ext_alloc w _)) (Own.ext hO (ext_alloc w _)) hgrow2 hown2 rfl; have hsz2 := hE2.size; clear hown2 hgrow2)
  go_ret
  exact ⟨A2, c2, by rw [HF.out]; simp, by rw [HF.out]; exact ho2, hE2⟩
set_option maxRecDepth 100000 in
set_option maxHeartbeats 400000 in
theorem rput_1t (hB : B ≤ w.heap.size) (hO : Own 5 B w A c bs) (hl : bs.length ≤ 1099511627776 + 16) :
    Calls Try.prog 44 #[.slice A bs.length c, (Vl.mk 1 true i r e m t).d] w (PutIn B w (bs ++ [3])) := by
  obtain ⟨i0, hi, hz0, hz1, hz2⟩ := info_parts infoU8
  obtain ⟨fin, hfin⟩ : ∃ fin, fin = bs ++ [3] := ⟨_, rfl⟩
  rw [← hfin]
  have HF := Lib.hid hfin
  clear hfin
  go_enter Try.func44, Try.ntmps44
  go_wp2_with (at_builtin; go_loud (refine wpList_append_own _ rfl _ _ 30 rfl B 5 i0 (.int .u8 0) 1 1 Try.underlying30 hi hz0 hz1 hz2 rfl (by decide) _ _ _ rfl (World.ownsRow.alloc (Own.ext hO (ext_alloc w _)) _) ⟨w.heap.size + 1, 0, none⟩ 1 1 [.int .u8 3] rfl rfl (Byte1.news (alloc_two _ _ _)) (by simp [Value.oneCell']) (by simp [maxLen]; omega) (by omega) (by simp; omega) ?_; intro v' w2 hown2 hgrow2 _); obtain ⟨A2, c2, rfl, ho2, hE2⟩ := own_push 3 (Exc.of_ext (ext_alloc w _)) (Own.ext hO (ext_alloc w _)) hgrow2 hown2 rfl; have hsz2 := hE2.size; clear hown2 hgrow2)
  go_ret
  exact ⟨A2, c2, by rw [HF.out]; simp, by rw [HF.out]; exact ho2, hE2⟩
set_option maxRecDepth 100000 in
set_option maxHeartbeats 400000 in
theorem rput_1f (hB : B ≤ w.heap.size) (hO : Own 5 B w A c bs) (hl : bs.length ≤ 1099511627776 + 16) :
    Calls Try.prog 44 #[.slice A bs.length c, (Vl.mk 1 false i r e m t).d] w (PutIn B w (bs ++ [2])) := by
  obtain ⟨i0, hi, hz0, hz1, hz2⟩ := info_parts infoU8
  obtain ⟨fin, hfin⟩ : ∃ fin, fin = bs ++ [2] := ⟨_, rfl⟩
  rw [← hfin]
  have HF := Lib.hid hfin
  clear hfin
  go_enter Try.func44, Try.ntmps44
  go_wp2_with (at_builtin; go_loud (refine wpList_append_own _ rfl _ _ 30 rfl B 5 i0 (.int .u8 0) 1 1 Try.underlying30 hi hz0 hz1 hz2 rfl (by decide) _ _ _ rfl (World.ownsRow.alloc (Own.ext hO (ext_alloc w _)) _) ⟨w.heap.size + 1, 0, none⟩ 1 1 [.int .u8 2] rfl rfl (Byte1.news (alloc_two _ _ _)) (by simp [Value.oneCell']) (by simp [maxLen]; omega) (by omega) (by simp; omega) ?_; intro v' w2 hown2 hgrow2 _); obtain ⟨A2, c2, rfl, ho2, hE2⟩ := own_push 2 (Exc.of_ext (ext_alloc w _)) (Own.ext hO (ext_alloc w _)) hgrow2 hown2 rfl; have hsz2 := hE2.size; clear hown2 hgrow2)
  go_ret
  exact ⟨A2, c2, by rw [HF.out]; simp, by rw [HF.out]; exact ho2, hE2⟩
set_option maxRecDepth 100000 in
set_option maxHeartbeats 400000 in
theorem rput_2 (hB : B ≤ w.heap.size) (hO : Own 5 B w A c bs) (hl : bs.length ≤ 1099511627776 + 16) (hi : -9223372036854775808 ≤ i ∧ i ≤ 9223372036854775807) :
    Calls Try.prog 44 #[.slice A bs.length c, (Vl.mk 2 b i r e m t).d] w (PutIn B w (bs ++ putI i)) := by
  obtain ⟨i0, hi9, hz0, hz1, hz2⟩ := info_parts infoU8
  obtain ⟨fin, hfin⟩ : ∃ fin, fin = bs ++ putI i := ⟨_, rfl⟩
  rw [← hfin]
  have HF := Lib.hid hfin
  clear hfin
  go_enter Try.func44, Try.ntmps44
  go_wp2_with fail
  have HB := putInt_any (B := B) (w := w.alloc (Obj.cells #[.int .i64 2, .bool b, .int .i64 i, .int .u64 r, .int .u64 e, .int .u64 m, str t] 51)) (by simp; omega) (hO.ext (ext_alloc w _)) hl hi
  rw [← HF.out] at HB
  refine HB.mono ?_
  rintro e9 w9 ⟨A9, c9, rfl, ho9, hE9⟩
  clear HB
  go_wp2
  go_ret
  exact ⟨A9, c9, rfl, ho9, (Exc.of_ext (ext_alloc w _)).trans hE9⟩
set_option maxRecDepth 100000 in
set_option maxHeartbeats 400000 in
theorem rput_3 (hB : B ≤ w.heap.size) (hO : Own 5 B w A c bs) (hl : bs.length ≤ 1099511627776) (hr : r < 18446744073709551616) :
    Calls Try.prog 44 #[.slice A bs.length c, (Vl.mk 3 b i r e m t).d] w (PutIn B w (bs ++ (48 :: bigB (rankN r) 8))) := by
  obtain ⟨i0, hi, hz0, hz1, hz2⟩ := info_parts infoU8
  obtain ⟨fin, hfin⟩ : ∃ fin, fin = bs ++ (48 :: bigB (rankN r) 8) := ⟨_, rfl⟩
  rw [← hfin]
  have HF := Lib.hid hfin
  clear hfin
  go_enter Try.func44, Try.ntmps44
  go_wp2_with (at_builtin; go_loud (refine wpList_append_own _ rfl _ _ 30 rfl B 5 i0 (.int .u8 0) 1 1 Try.underlying30 hi hz0 hz1 hz2 rfl (by decide) _ _ _ rfl (World.ownsRow.alloc (Own.ext hO (ext_alloc w _)) _) ⟨w.heap.size + 1, 0, none⟩ 1 1 [.int .u8 48] rfl rfl (Byte1.news (alloc_two _ _ _)) (by simp [Value.oneCell']) (by simp [maxLen]; omega) (by omega) (by simp; omega) ?_; intro v' w2 hown2 hgrow2 _; obtain ⟨A2, c2, rfl, ho2, hE2⟩ := own_push 48 (exc_refl _ (w.alloc (Obj.cells #[.int .i64 3, .bool b, .int .i64 i, .int .u64 r, .int .u64 e, .int .u64 m, str t] 51))) (hO.ext (ext_alloc w _)) hgrow2 hown2 rfl; have hb2 := hE2.blk (heap_alloc_new w _) (u8_box (by decide)); replace hE2 := (Exc.of_ext (ext_alloc w _)).trans hE2; have hsz2 := hE2.size; have hc2 := cell_of_row w2 w.heap.size 3 _ _ _ hb2; simp only [List.getElem?_toArray, List.getElem?_cons_zero, List.getElem?_cons_succ] at hc2; clear hown2 hgrow2))
  have HB := putReal_any (B := B) (A := A2) (c := c2) (x := r) (by omega) ho2 (by simp; omega) hr
  rw [show bs ++ [48] ++ bigB (rankN r) 8 = fin from by rw [HF.out]; simp, show (bs ++ [(48 : UInt8)]).length = bs.length + 1 by simp] at HB
  refine HB.mono ?_
  rintro e9 w9 ⟨A9, c9, rfl, ho9, hE9⟩
  clear HB hc2
  go_wp2
  go_ret
  exact ⟨A9, c9, rfl, ho9, hE2.trans hE9⟩
set_option maxRecDepth 100000 in
set_option maxHeartbeats 400000 in
theorem rput_4 (hB : B ≤ w.heap.size) (hO : Own 5 B w A c bs) (hl : bs.length ≤ 1099511627776) (hr : e < 18446744073709551616) (hm : m < 18446744073709551616) :
    Calls Try.prog 44 #[.slice A bs.length c, (Vl.mk 4 b i r e m t).d] w (PutIn B w (bs ++ (56 :: bigB (rankN e) 8 ++ bigB (rankN m) 8))) := by
  obtain ⟨i0, hi, hz0, hz1, hz2⟩ := info_parts infoU8
  obtain ⟨fin, hfin⟩ : ∃ fin, fin = bs ++ (56 :: bigB (rankN e) 8 ++ bigB (rankN m) 8) := ⟨_, rfl⟩
  rw [← hfin]
  have HF := Lib.hid hfin
  clear hfin
  obtain ⟨mid, hmid⟩ : ∃ mid, mid = bs ++ (56 :: bigB (rankN e) 8) := ⟨_, rfl⟩
  have HM := Lib.hid hmid
  have hml : mid.length ≤ 1099511627776 + 9 := by rw [hmid]; simp [length_bigB]; omega
  have HF2 : Hid (mid ++ bigB (rankN m) 8 = fin) := Lib.hid (by rw [HF.out, hmid]; simp)
  clear hmid HF
  go_enter Try.func44, Try.ntmps44
  go_wp2_with (at_builtin; go_loud (refine wpList_append_own _ rfl _ _ 30 rfl B 5 i0 (.int .u8 0) 1 1 Try.underlying30 hi hz0 hz1 hz2 rfl (by decide) _ _ _ rfl (World.ownsRow.alloc (Own.ext hO (ext_alloc w _)) _) ⟨w.heap.size + 1, 0, none⟩ 1 1 [.int .u8 56] rfl rfl (Byte1.news (alloc_two _ _ _)) (by simp [Value.oneCell']) (by simp [maxLen]; omega) (by omega) (by simp; omega) ?_; intro v' w2 hown2 hgrow2 _; obtain ⟨A2, c2, rfl, ho2, hE2⟩ := own_push 56 (exc_refl _ (w.alloc (Obj.cells #[.int .i64 4, .bool b, .int .i64 i, .int .u64 r, .int .u64 e, .int .u64 m, str t] 51))) (hO.ext (ext_alloc w _)) hgrow2 hown2 rfl; have hb2 := hE2.blk (heap_alloc_new w _) (u8_box (by decide)); replace hE2 := (Exc.of_ext (ext_alloc w _)).trans hE2; have hsz2 := hE2.size; have hc2 := cell_of_row w2 w.heap.size 4 _ _ _ hb2; simp only [List.getElem?_toArray, List.getElem?_cons_zero, List.getElem?_cons_succ] at hc2; clear hown2 hgrow2))
  have HB := putReal_any (B := B) (A := A2) (c := c2) (x := e) (by omega) ho2 (by simp; omega) hr
  rw [show bs ++ [56] ++ bigB (rankN e) 8 = mid from by rw [HM.out]; simp, show (bs ++ [(56 : UInt8)]).length = bs.length + 1 by simp] at HB
  refine HB.mono ?_
  rintro e9 w9 ⟨A9, c9, rfl, ho9, hE9⟩
  clear HB hc2
  have hb9 := hE9.blk hb2 (u8_box (by decide))
  have hsz9 := hE9.size
  have hc9 := cell_of_row w9 w.heap.size 5 _ _ _ hb9
  simp only [List.getElem?_toArray, List.getElem?_cons_zero, List.getElem?_cons_succ] at hc9
  go_wp2_with fail
  have HB := putReal_any (B := B) (A := A9) (c := c9) (x := m) (by omega) ho9 (by omega) hm
  rw [HF2.out] at HB
  refine HB.mono ?_
  rintro e7 w7 ⟨A7, c7, rfl, ho7, hE7⟩
  clear HB hc9
  go_wp2
  go_ret
  exact ⟨A7, c7, rfl, ho7, (hE2.trans hE9).trans hE7⟩
set_option maxRecDepth 100000 in
set_option maxHeartbeats 400000 in
theorem rput_5 (hB : B ≤ w.heap.size) (hO : Own 5 B w A c bs) (hl : bs.length ≤ 1099511627776 + 16) (ht : t.length ≤ 1099511627776) :
    Calls Try.prog 44 #[.slice A bs.length c, (Vl.mk 5 b i r e m t).d] w (PutIn B w (bs ++ (64 :: escB t ++ [0]))) := by
  obtain ⟨i0, hi, hz0, hz1, hz2⟩ := info_parts infoU8
  obtain ⟨fin, hfin⟩ : ∃ fin, fin = bs ++ (64 :: escB t ++ [0]) := ⟨_, rfl⟩
  rw [← hfin]
  have HF := Lib.hid hfin
  clear hfin
  have hlen : (⟨t.toArray⟩ : ByteArray).size = t.length := by simp [ByteArray.size]
  have hix := str_index 9 Try.underlying9 t
  go_enter Try.func44, Try.ntmps44
  go_wp2_with (at_builtin; go_loud (refine wpList_append_own _ rfl _ _ 30 rfl B 5 i0 (.int .u8 0) 1 1 Try.underlying30 hi hz0 hz1 hz2 rfl (by decide) _ _ _ rfl (World.ownsRow.alloc (Own.ext hO (ext_alloc w _)) _) ⟨w.heap.size + 1, 0, none⟩ 1 1 [.int .u8 64] rfl rfl (Byte1.news (alloc_two _ _ _)) (by simp [Value.oneCell']) (by simp [maxLen]; omega) (by omega) (by simp; omega) ?_; intro v' w2 hown2 hgrow2 _; obtain ⟨A2, c2, rfl, ho2, hE2⟩ := own_push 64 (exc_refl _ (w.alloc (Obj.cells #[.int .i64 5, .bool b, .int .i64 i, .int .u64 r, .int .u64 e, .int .u64 m, str t] 51))) (hO.ext (ext_alloc w _)) hgrow2 hown2 rfl; have hb2 := hE2.blk (heap_alloc_new w _) (u8_box (by decide)); replace hE2 := (Exc.of_ext (ext_alloc w _)).trans hE2; have hsz2 := hE2.size; have hc2 := cell_of_row w2 w.heap.size 6 _ _ _ hb2; simp only [List.getElem?_toArray, List.getElem?_cons_zero, List.getElem?_cons_succ] at hc2; clear hown2 hgrow2))
  clear hc2
  have hsz := hE2.size
  have HT0 : Hid ((bs ++ [64]) ++ escB (t.drop 0) ++ [0] = fin) := Lib.hid (by rw [HF.out]; simp)
  clear HF
  go_loopw [0, 5] (fun v j wr => ∃ (q d : Nat) (done : List UInt8) (A' : Option Addr) (c' : Nat), v = .slice A' d c' ∧ j = .int .i64 q ∧ q ≤ t.length ∧ Hid (d = done.length) ∧ d ≤ bs.length + 1 + 2 * q ∧ Own 5 B wr A' c' done ∧ Hid (done ++ escB (t.drop q) ++ [0] = fin) ∧ Exc (U8 B) w2 wr) (fun _ j _ => t.length - (intOf j).toNat)
  case atStart => exact ⟨0, _, _, A2, c2, rfl, rfl, Nat.zero_le _, Lib.hid (by simp), by omega, ho2, HT0, exc_refl _ _⟩
  case round =>
    obtain ⟨q, d, done, A', c', rfl, rfl, hq, HD, hd, hown, HT, hE⟩ := hrel
    obtain rfl := HD.out
    have hsz2 := hE.size
    have hbr := hE.blk hb2 (u8_box (by decide))
    have hcr := cell_of_row wr w.heap.size 6 _ _ _ hbr
    simp only [List.getElem?_toArray, List.getElem?_cons_zero, List.getElem?_cons_succ] at hcr
    by_cases hlt : q < t.length
    · obtain ⟨x, hx⟩ : ∃ x, t[q] = x := ⟨_, rfl⟩
      have hat : at8 t q = (x.toNat : Int) := by simp [at8, hlt, hx]
      have hdr : t.drop q = x :: t.drop (q + 1) := by rw [List.drop_eq_getElem_cons hlt, hx]
      have HDR := Lib.hid hdr
      clear hdr hx
      by_cases h00 : x = 0
      · have hat0 : at8 t q = 0 := by rw [hat, h00]; rfl
        subst h00
        clear hat
        go_wp2_with (first | (at_builtin; refine wpList_append_own _ rfl _ _ 30 rfl B 5 i0 (.int .u8 0) 1 1 Try.underlying30 hi hz0 hz1 hz2 rfl (by decide) _ _ _ rfl (World.ownsRow.alloc hown _) ⟨wr.heap.size, 0, none⟩ 1 1 [.int .u8 0] rfl rfl (cell_one_new _ _ _) (by simp [Value.oneCell']) (by simp [maxLen]; omega) (by omega) (by simp; omega) ?_; intro v' w4 hown4 hgrow4 _; obtain ⟨A4, c4, rfl, ho4, hE4⟩ := own_push 0 hE hown hgrow4 hown4 rfl; have hsz4 := hE4.size; have hb4 := hE4.blk hb2 (u8_box (by decide)); have hc4 := cell_of_row w4 w.heap.size 6 _ _ _ hb4; simp only [List.getElem?_toArray, List.getElem?_cons_zero, List.getElem?_cons_succ] at hc4; clear hown4 hgrow4) | (at_builtin; refine wpList_append_own _ rfl _ _ 30 rfl B 5 i0 (.int .u8 0) 1 1 Try.underlying30 hi hz0 hz1 hz2 rfl (by decide) _ _ _ rfl (World.ownsRow.alloc (ho4.at_ (n := done.length + 1) (by simp)) _) ⟨w4.heap.size, 0, none⟩ 1 1 [.int .u8 255] rfl rfl (cell_one_new _ _ _) (by simp [Value.oneCell']) (by simp [maxLen]; omega) (by simp; omega) (by simp; omega) ?_; intro v' w6 hown6 hgrow6 _; obtain ⟨A6, c6, rfl, ho6, hE6⟩ := own_pushN (n := done.length + 1) 255 (by simp) hE4 ho4 hgrow6 hown6 rfl; clear hown6 hgrow6))
        have HT2 : Hid ((done ++ [0]) ++ [255] ++ escB (t.drop (q + 1)) ++ [0] = fin) := Lib.hid (by rw [← HT.out, HDR.out]; simp [escB])
        go_roundw
        case rel => exact ⟨q + 1, _, _, A6, c6, rfl, by go_num, by omega, Lib.hid (by simp), by omega, ho6, HT2, hE6⟩
        case measure => first | (simp [intOf]; done) | (simp [intOf]; omega)
      · have hat0 : ¬ at8 t q = 0 := by
          rw [hat]
          intro h
          exact h00 (UInt8.toNat_inj.1 (by simpa using h))
        go_wp2_with (at_builtin; refine wpList_append_own _ rfl _ _ 30 rfl B 5 i0 (.int .u8 0) 1 1 Try.underlying30 hi hz0 hz1 hz2 rfl (by decide) _ _ _ rfl (World.ownsRow.alloc hown _) ⟨wr.heap.size, 0, none⟩ 1 1 [.int .u8 (x.toNat : Int)] rfl rfl (cell_one_new _ _ _) (by simp [Value.oneCell']) (by simp [maxLen]; omega) (by omega) (by simp; omega) ?_; intro v' w4 hown4 hgrow4 _; obtain ⟨A4, c4, rfl, ho4, hE4⟩ := own_push x hE hown hgrow4 hown4 rfl; have hb4 := hE4.blk hb2 (u8_box (by decide)); have hc4 := cell_of_row w4 w.heap.size 6 _ _ _ hb4; simp only [List.getElem?_toArray, List.getElem?_cons_zero, List.getElem?_cons_succ] at hc4; clear hown4 hgrow4)
        have HT2 : Hid ((done ++ [x]) ++ escB (t.drop (q + 1)) ++ [0] = fin) := Lib.hid (by rw [← HT.out, HDR.out]; simp [escB, h00])
        go_roundw
        case rel => exact ⟨q + 1, _, _, A4, c4, rfl, by go_num, by omega, Lib.hid (by simp), by omega, ho4, HT2, hE4⟩
        case measure => first | (simp [intOf]; done) | (simp [intOf]; omega)
    · obtain rfl : q = t.length := by omega
      go_wp2_with (at_builtin; refine wpList_append_own _ rfl _ _ 30 rfl B 5 i0 (.int .u8 0) 1 1 Try.underlying30 hi hz0 hz1 hz2 rfl (by decide) _ _ _ rfl (World.ownsRow.alloc hown _) ⟨wr.heap.size, 0, none⟩ 1 1 [.int .u8 0] rfl rfl (cell_one_new _ _ _) (by simp [Value.oneCell']) (by simp [maxLen]; omega) (by omega) (by simp; omega) ?_; intro v' w4 hown4 hgrow4 _; obtain ⟨A4, c4, rfl, ho4, hE4⟩ := own_push 0 hE hown hgrow4 hown4 rfl; clear hown4 hgrow4)
      have HB : done ++ [0] = fin := by rw [← HT.out]; simp [escB]
      have HL : Hid (done.length + 1 = fin.length) := Lib.hid (by rw [← HB]; simp)
      rw [HB] at ho4
      clear HB
      go_wp2
      go_ret
      exact ⟨_, _, by rw [← HL.out]; rfl, ho4, hE2.trans hE4⟩
theorem rput_k (hB : B ≤ w.heap.size) (hO : Own 5 B w A c bs) (h0 : ¬ k = 0) (h1 : ¬ k = 1) (h2 : ¬ k = 2) (h3 : ¬ k = 3) (h4 : ¬ k = 4) (h5 : ¬ k = 5) :
    Calls Try.prog 44 #[.slice A bs.length c, (Vl.mk k b i r e m t).d] w (PutIn B w bs) := by
  go_enter Try.func44, Try.ntmps44
  go_wp2
  go_ret
  exact ⟨A, c, rfl, hO.ext (ext_alloc _ _), Exc.of_ext (ext_alloc _ _)⟩
end
theorem rput_any {w : World} {B c : Nat} {A : Option Addr} {bs : List UInt8} {v : Vl} (hB : B ≤ w.heap.size) (h : Own 5 B w A c bs) (hl : bs.length ≤ 1099511627776) (hv : v.Ok) (ht : v.text.length ≤ 1099511627776) (hk : 0 ≤ v.kind ∧ v.kind ≤ 5) :
    Calls Try.prog 44 #[.slice A bs.length c, v.d] w (PutIn B w (bs ++ putB v)) := by
  obtain ⟨k, b, i, r, e, m, t⟩ := v
  unfold putB
  simp only at hk ⊢
  by_cases h0 : k = 0
  · subst h0; exact rput_0 hB h (by omega)
  rw [if_neg h0]
  by_cases h1 : k = 1
  · subst h1
    rw [if_pos rfl]
    cases b
    · exact rput_1f hB h (by omega)
    · exact rput_1t hB h (by omega)
  rw [if_neg h1]
  by_cases h2 : k = 2
  · subst h2; exact rput_2 hB h (by omega) hv.int
  rw [if_neg h2]
  by_cases h4 : k = 4
  · subst h4; exact rput_4 hB h hl hv.re hv.im
  rw [if_neg h4]
  by_cases h3 : k = 3
  · subst h3; exact rput_3 hB h (by omega) hv.real
  rw [if_neg h3]
  obtain rfl : k = 5 := by omega
  exact rput_5 hB h (by omega) ht
end Go.Proofs.Ytbjfgnkjmfcokaa
