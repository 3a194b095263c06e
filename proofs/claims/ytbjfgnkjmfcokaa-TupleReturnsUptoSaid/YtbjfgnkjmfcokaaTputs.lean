/- Layer 3: the contract of tuple.put, of a text; and of every value. No condition but the bounds of the types, and that texts are no longer than 2^40. -/
import Derived.Test.YtbjfgnkjmfcokaaTput
namespace Go.Proofs.Ytbjfgnkjmfcokaa
open Go.RowKit Go.Proofs
set_option linter.unusedVariables false
section
variable {w : World} {B c : Nat} {A : Option Addr} {bs : List UInt8} {k i : Int} {b : Bool} {r e m : Nat} {t : List UInt8}
set_option maxRecDepth 100000 in
set_option maxHeartbeats 400000 in
theorem put_5 (hB : B ≤ w.heap.size) (hO : Own 5 B w A c bs) (hl : bs.length ≤ 1099511627776) (h0 : ¬ k = 0) (h1 : ¬ k = 1) (h2 : ¬ k = 2) (h4 : ¬ k = 4) (h3 : ¬ k = 3) (ht : t.length ≤ 1099511627776) :
    Calls Try.prog 46 #[.slice A bs.length c, (Vl.mk k b i r e m t).p] w (PutIn B w (bs ++ (64 :: escB t ++ [0]))) := by
  obtain ⟨i0, hi, hz0, hz1, hz2⟩ := info_parts infoU8
  obtain ⟨fin, hfin⟩ : ∃ fin, fin = bs ++ (64 :: escB t ++ [0]) := ⟨_, rfl⟩
  rw [← hfin]
  have HF := Lib.hid hfin
  clear hfin
  have hlen : (⟨t.toArray⟩ : ByteArray).size = t.length := by simp [ByteArray.size]
  have hix := str_index 9 Try.underlying9 t
  go_enter Try.func46, Try.ntmps46
  go_wp2_with (at_builtin; go_loud (refine wpList_append_own _ rfl _ _ 30 rfl B 5 i0 (.int .u8 0) 1 1 Try.underlying30 hi hz0 hz1 hz2 rfl (by decide) _ _ _ rfl (World.ownsRow.alloc (Own.ext hO (ext_alloc w _)) _) ⟨w.heap.size + 1, 0, none⟩ 1 1 [.int .u8 64] rfl rfl (Byte1.news (alloc_two _ _ _)) (by simp [Value.oneCell']) (by simp [maxLen]; omega) (by omega) (by simp; omega) ?_; intro v' w2 hown2 hgrow2 _); obtain ⟨A2, c2, rfl, ho2, hE2⟩ := own_push 64 (exc_refl _ (w.alloc (Obj.cells #[.int .i64 k, .bool b, .int .i64 i, .float .f64 r, .complex .f64 e m, str t] 56))) (hO.ext (ext_alloc w _)) hgrow2 hown2 rfl; have hb2 := hE2.blk (heap_alloc_new w _) (u8_box (by decide)); replace hE2 := (Exc.of_ext (ext_alloc w _)).trans hE2; have hc2 := cell_of_row w2 w.heap.size 5 _ _ _ hb2; simp only [List.getElem?_toArray, List.getElem?_cons_zero, List.getElem?_cons_succ] at hc2; clear hown2 hgrow2)
  clear hc2
  have hsz := hE2.size
  have HT0 : Hid ((bs ++ [64]) ++ escB (t.drop 0) ++ [0] = fin) := Lib.hid (by rw [HF.out]; simp)
  clear HF
  go_loopw [0, 93] (fun v j wr => ∃ (q d : Nat) (done : List UInt8) (A' : Option Addr) (c' : Nat), v = .slice A' d c' ∧ j = .int .i64 q ∧ q ≤ t.length ∧ Hid (d = done.length) ∧ d ≤ bs.length + 1 + 2 * q ∧ Own 5 B wr A' c' done ∧ Hid (done ++ escB (t.drop q) ++ [0] = fin) ∧ Exc (U8 B) w2 wr) (fun _ j _ => t.length - (intOf j).toNat)
  case atStart => exact ⟨0, _, _, A2, c2, rfl, rfl, Nat.zero_le _, Lib.hid (by simp), by omega, ho2, HT0, exc_refl _ _⟩
  case round =>
    obtain ⟨q, d, done, A', c', rfl, rfl, hq, HD, hd, hown, HT, hE⟩ := hrel
    obtain rfl := HD.out
    have hsz2 := hE.size
    have hbr := hE.blk hb2 (u8_box (by decide))
    have hcr := cell_of_row wr w.heap.size 5 _ _ _ hbr
    simp only [List.getElem?_toArray, List.getElem?_cons_zero, List.getElem?_cons_succ] at hcr
    by_cases hlt : q < t.length
    · obtain ⟨x, hx⟩ : ∃ x, t[q] = x := ⟨_, rfl⟩
      have hat : at8 t q = (x.toNat : Int) := by simp [at8, hlt, hx]
      have hdr : t.drop q = x :: t.drop (q + 1) := by rw [List.drop_eq_getElem_cons hlt, hx]
      have HDR := Lib.hid hdr
      clear hdr hx
      by_cases h00 : x = 0
      · have hat0 : at8 t q = 0 := by rw [hat, h00]; rfl
        subst h00
        clear hat
        go_wp2_with (first | (at_builtin; refine wpList_append_own _ rfl _ _ 30 rfl B 5 i0 (.int .u8 0) 1 1 Try.underlying30 hi hz0 hz1 hz2 rfl (by decide) _ _ _ rfl (World.ownsRow.alloc hown _) ⟨wr.heap.size, 0, none⟩ 1 1 [.int .u8 0] rfl rfl (cell_one_new _ _ _) (by simp [Value.oneCell']) (by simp [maxLen]; omega) (by omega) (by simp; omega) ?_; intro v' w4 hown4 hgrow4 _; obtain ⟨A4, c4, rfl, ho4, hE4⟩ := own_push 0 hE hown hgrow4 hown4 rfl; have hsz4 := hE4.size; have hb4 := hE4.blk hb2 (u8_box (by decide)); have hc4 := cell_of_row w4 w.heap.size 5 _ _ _ hb4; simp only [List.getElem?_toArray, List.getElem?_cons_zero, List.getElem?_cons_succ] at hc4; clear hown4 hgrow4) | (at_builtin; refine wpList_append_own _ rfl _ _ 30 rfl B 5 i0 (.int .u8 0) 1 1 Try.underlying30 hi hz0 hz1 hz2 rfl (by decide) _ _ _ rfl (World.ownsRow.alloc (ho4.at_ (n := done.length + 1) (by simp)) _) ⟨w4.heap.size, 0, none⟩ 1 1 [.int .u8 255] rfl rfl (cell_one_new _ _ _) (by simp [Value.oneCell']) (by simp [maxLen]; omega) (by simp; omega) (by simp; omega) ?_; intro v' w6 hown6 hgrow6 _; obtain ⟨A6, c6, rfl, ho6, hE6⟩ := own_pushN (n := done.length + 1) 255 (by simp) hE4 ho4 hgrow6 hown6 rfl; clear hown6 hgrow6))
        have HT2 : Hid ((done ++ [0]) ++ [255] ++ escB (t.drop (q + 1)) ++ [0] = fin) := Lib.hid (by rw [← HT.out, HDR.out]; simp [escB])
        go_roundw
        case rel => exact ⟨q + 1, _, _, A6, c6, rfl, by go_num, by omega, Lib.hid (by simp), by omega, ho6, HT2, hE6⟩
        case measure => first | (simp [intOf]; done) | (simp [intOf]; omega)
      · have hat0 : ¬ at8 t q = 0 := by
          rw [hat]
          intro h
          exact h00 (UInt8.toNat_inj.1 (by simpa using h))
        go_wp2_with (at_builtin; refine wpList_append_own _ rfl _ _ 30 rfl B 5 i0 (.int .u8 0) 1 1 Try.underlying30 hi hz0 hz1 hz2 rfl (by decide) _ _ _ rfl (World.ownsRow.alloc hown _) ⟨wr.heap.size, 0, none⟩ 1 1 [.int .u8 (x.toNat : Int)] rfl rfl (cell_one_new _ _ _) (by simp [Value.oneCell']) (by simp [maxLen]; omega) (by omega) (by simp; omega) ?_; intro v' w4 hown4 hgrow4 _; obtain ⟨A4, c4, rfl, ho4, hE4⟩ := own_push x hE hown hgrow4 hown4 rfl; have hb4 := hE4.blk hb2 (u8_box (by decide)); have hc4 := cell_of_row w4 w.heap.size 5 _ _ _ hb4; simp only [List.getElem?_toArray, List.getElem?_cons_zero, List.getElem?_cons_succ] at hc4; clear hown4 hgrow4)
        have HT2 : Hid ((done ++ [x]) ++ escB (t.drop (q + 1)) ++ [0] = fin) := Lib.hid (by rw [← HT.out, HDR.out]; simp [escB, h00])
        go_roundw
        case rel => exact ⟨q + 1, _, _, A4, c4, rfl, by go_num, by omega, Lib.hid (by simp), by omega, ho4, HT2, hE4⟩
        case measure => first | (simp [intOf]; done) | (simp [intOf]; omega)
    · obtain rfl : q = t.length := by omega
      go_wp2_with (at_builtin; refine wpList_append_own _ rfl _ _ 30 rfl B 5 i0 (.int .u8 0) 1 1 Try.underlying30 hi hz0 hz1 hz2 rfl (by decide) _ _ _ rfl (World.ownsRow.alloc hown _) ⟨wr.heap.size, 0, none⟩ 1 1 [.int .u8 0] rfl rfl (cell_one_new _ _ _) (by simp [Value.oneCell']) (by simp [maxLen]; omega) (by omega) (by simp; omega) ?_; intro v' w4 hown4 hgrow4 _; obtain ⟨A4, c4, rfl, ho4, hE4⟩ := own_push 0 hE hown hgrow4 hown4 rfl; clear hown4 hgrow4)
      have HB : done ++ [0] = fin := by rw [← HT.out]; simp [escB]
      have HL : Hid (done.length + 1 = fin.length) := Lib.hid (by rw [← HB]; simp)
      rw [HB] at ho4
      clear HB
      go_wp2
      go_ret
      exact ⟨_, _, by rw [← HL.out]; rfl, ho4, hE2.trans hE4⟩
end
theorem tput_any {w : World} {B c : Nat} {A : Option Addr} {bs : List UInt8} {v : Vl} (hB : B ≤ w.heap.size) (h : Own 5 B w A c bs) (hl : bs.length ≤ 1099511627776) (hv : v.Ok) (ht : v.text.length ≤ 1099511627776) :
    Calls Try.prog 46 #[.slice A bs.length c, v.p] w (PutIn B w (bs ++ putB v)) := by
  obtain ⟨k, b, i, r, e, m, t⟩ := v
  unfold putB
  simp only
  by_cases h0 : k = 0
  · subst h0; exact put_0 hB h hl
  rw [if_neg h0]
  by_cases h1 : k = 1
  · subst h1
    rw [if_pos rfl]
    cases b
    · exact put_1f hB h hl
    · exact put_1t hB h hl
  rw [if_neg h1]
  by_cases h2 : k = 2
  · subst h2
    rw [if_pos rfl]
    have hi := hv.int
    simp only at hi
    unfold putI
    by_cases hp : 0 ≤ i
    · rw [if_pos hp]
      obtain ⟨n, rfl⟩ := Int.eq_ofNat_of_zero_le hp
      exact put_2p hB h hl (by omega)
    · rw [if_neg hp]
      exact put_2n hB h hl (by omega) (n := (-1 - i).toNat) (by omega) (by omega)
  rw [if_neg h2]
  by_cases h4 : k = 4
  · subst h4; exact put_4 hB h hl hv.re hv.im
  rw [if_neg h4]
  by_cases h3 : k = 3
  · subst h3; exact put_3 hB h hl hv.real
  rw [if_neg h3]
  exact put_5 hB h hl h0 h1 h2 h4 h3 ht
end Go.Proofs.Ytbjfgnkjmfcokaa
