/- Layer 3: contracts of the document's length and of tuple.text, tuple.whole. No condition but that the bytes lie in memory. -/
import Derived.Test.YtbjfgnkjmfcokaaTread
import Derived.Test.YtbjfgnkjmfcokaaTstr
namespace Go.Proofs.Ytbjfgnkjmfcokaa
open Go.RowKit Go.Proofs
set_option linter.unusedVariables false
theorem txtL_zero (t : List UInt8) (h : t.head? ≠ some 255) : txtL (0 :: t) = 1 ∧ unT (0 :: t) = [] := by
  cases t with
  | nil => simp [txtL, unT]
  | cons y t =>
    have h2 : ¬ y = 255 := fun e => h (by simp [e])
    simp [txtL, unT, h2]
theorem txtL_esc (t : List UInt8) : txtL (0 :: 255 :: t) = 2 + txtL t ∧ unT (0 :: 255 :: t) = 0 :: unT t := by simp [txtL, unT]
theorem txtL_cons {x : UInt8} (h : ¬ x = 0) (t : List UInt8) : txtL (x :: t) = 1 + txtL t ∧ unT (x :: t) = x :: unT t := by
  cases t <;> simp [txtL, unT, h]
theorem head_drop {bs : List UInt8} {k : Nat} (h : k < bs.length) : (bs.drop k).head? = some bs[k] := by
  rw [List.drop_eq_getElem_cons h]; rfl
section
variable {w : World} {A : Option Addr} {c : Nat} {bs : List UInt8}
set_option maxRecDepth 20000 in
set_option maxHeartbeats 1000000 in
theorem length_num (h : Sl w A c bs) {x : UInt8} {r : List UInt8} (hb : bs = x :: r) (h64 : ¬ x.toNat = 64) : Calls Try.prog 47 #[.slice A bs.length c] w fun e w' => e = .returned (.int .i64 (lenB bs)) ∧ w = w' := by
  have hl := h.len
  have hx := x.toNat_lt
  have hlen : 0 < bs.length := by rw [hb]; simp
  obtain ⟨b, off, rfl, hc⟩ := h.rd hlen
  have hat : at8 bs 0 = (x.toNat : Int) := by rw [hb]; rfl
  have hck := hc 0 hlen
  rw [hat] at hck
  simp only [Nat.add_zero] at hck
  obtain ⟨q, hq⟩ : ∃ q, lenB bs = q := ⟨_, rfl⟩
  rw [hq]
  rw [hb] at hq
  unfold lenB at hq
  simp only at hq
  rw [if_neg h64] at hq
  have HQ := Lib.hid hq
  have hi64 : ¬ (x.toNat : Int) = 64 := by omega
  clear hq hc hat h64
  generalize x.toNat = t at *
  go_enter Try.func47, Try.ntmps47
  go_wp2
  all_goals go_ret
  all_goals refine ⟨ret_int ?_, rfl⟩
  all_goals rw [← HQ.out]
  all_goals (try simp only [decide_eq_true_eq, decide_eq_false_iff_not, beq_iff_eq, beq_eq_false_iff_ne] at *)
  all_goals split <;> (try split) <;> (try split) <;> (try split) <;> (try split) <;> (first | rfl | omega)
set_option maxRecDepth 20000 in
set_option maxHeartbeats 1000000 in
theorem length_text (h : Sl w A c bs) {r : List UInt8} (hb : bs = 64 :: r) : Calls Try.prog 47 #[.slice A bs.length c] w fun e w' => e = .returned (.int .i64 (lenB bs)) ∧ w = w' := by
  have hl := h.len
  have hlen : 0 < bs.length := by rw [hb]; simp
  obtain ⟨b, off, rfl, hc⟩ := h.rd hlen
  have hat : at8 bs 0 = 64 := by rw [hb]; rfl
  have HC := Lib.hid hc
  have hck := hc 0 hlen
  clear hc
  rw [hat] at hck
  simp only [Nat.add_zero] at hck
  obtain ⟨q, hq⟩ : ∃ q, lenB bs = q := ⟨_, rfl⟩
  rw [hq]
  have hq1 : q = 1 + txtL (bs.drop 1) := by rw [← hq, hb]; exact (text_get (c := 64) (r := r) rfl).1
  have HQ := Lib.hid hq1
  clear hq hq1 hat hb
  go_enter Try.func47, Try.ntmps47
  go_wp2
  clear hck
  go_loopw [4] (fun i wr => ∃ (k : Nat), i = .int .i64 k ∧ 1 ≤ k ∧ k ≤ bs.length ∧ Hid (q = k + txtL (bs.drop k)) ∧ w = wr) (fun i _ => bs.length - (intOf i).toNat)
  case atStart => exact ⟨1, rfl, Nat.le_refl _, hlen, HQ, rfl⟩
  case round =>
    obtain ⟨k, rfl, hk1, hk, HT, rfl⟩ := hrel
    by_cases hlt : k < bs.length
    · obtain ⟨x, hx⟩ : ∃ x, bs[k] = x := ⟨_, rfl⟩
      have hat : at8 bs k = (x.toNat : Int) := by simp [at8, hlt, hx]
      have hck := HC.out k hlt
      rw [hat] at hck
      have hdr : bs.drop k = x :: bs.drop (k + 1) := by rw [List.drop_eq_getElem_cons hlt, hx]
      rw [hdr] at HT
      clear hdr hx hat
      by_cases h0 : x = 0
      · subst h0
        rw [show ((0 : UInt8).toNat : Int) = 0 from rfl] at hck
        by_cases hlt2 : k + 1 < bs.length
        · obtain ⟨y, hy⟩ : ∃ y, bs[k + 1] = y := ⟨_, rfl⟩
          have hat2 : at8 bs (k + 1) = (y.toNat : Int) := by simp [at8, hlt2, hy]
          have hck2 := HC.out (k + 1) hlt2
          rw [hat2] at hck2
          have hdr : bs.drop (k + 1) = y :: bs.drop (k + 1 + 1) := by rw [List.drop_eq_getElem_cons hlt2, hy]
          by_cases h255 : y = 255
          · subst h255
            rw [show ((255 : UInt8).toNat : Int) = 255 from rfl] at hck2
            have HT2 : Hid (q = (k + 2) + txtL (bs.drop (k + 2))) := Lib.hid (by rw [HT.out, hdr, (txtL_esc _).1, show k + 2 = k + 1 + 1 from rfl]; omega)
            clear hdr hy hat2 HT
            go_wp2
            go_roundw
            case rel => exact ⟨k + 2, by go_num, by omega, by omega, HT2, trivial⟩
            case measure => first | (simp [intOf]; done) | (simp [intOf]; omega)
          · have hne : ¬ (y.toNat : Int) = 255 := fun e => h255 (UInt8.toNat_inj.1 (by simpa using (show y.toNat = 255 by omega)))
            have hne2 : ((y.toNat : Int) != 255) = true := by simpa using hne
            have HT2 : Hid (q = k + 1) := Lib.hid (by rw [HT.out, (txtL_zero _ (by rw [hdr]; simpa using h255)).1])
            clear hdr hy hat2 HT
            go_wp2
            go_ret
            exact ⟨by rw [HT2.out]; rfl, rfl⟩
        · have HT2 : Hid (q = k + 1) := Lib.hid (by rw [HT.out, (txtL_zero _ (by rw [List.drop_eq_nil_of_le (by omega)]; simp)).1])
          clear HT
          go_wp2
          go_ret
          exact ⟨by rw [HT2.out]; rfl, rfl⟩
      · have hne : ¬ (x.toNat : Int) = 0 := fun e => h0 (UInt8.toNat_inj.1 (by simpa using (show x.toNat = 0 by omega)))
        have HT2 : Hid (q = (k + 1) + txtL (bs.drop (k + 1))) := Lib.hid (by rw [HT.out, (txtL_cons h0 _).1]; omega)
        clear HT
        go_wp2
        go_roundw
        case rel => exact ⟨k + 1, by go_num, by omega, by omega, HT2, trivial⟩
        case measure => first | (simp [intOf]; done) | (simp [intOf]; omega)
    · obtain rfl : k = bs.length := by omega
      have HT2 : Hid (q = bs.length + 1) := Lib.hid (by rw [HT.out, List.drop_length]; rfl)
      go_wp2
      go_ret
      exact ⟨by rw [HT2.out]; rfl, rfl⟩
theorem length_any (h : Sl w A c bs) (hn : 0 < bs.length) : Calls Try.prog 47 #[.slice A bs.length c] w fun e w' => e = .returned (.int .i64 (lenB bs)) ∧ w = w' := by
  match bs, hn, h with
  | x :: r, _, h =>
    by_cases h64 : x.toNat = 64
    · obtain rfl : x = 64 := UInt8.toNat_inj.1 h64
      exact length_text h rfl
    · exact length_num h rfl h64
theorem ret_tie {x y : List UInt8} {a b p q : Int} (h : x = y) (h2 : a = b) (h3 : p = q) : Ending.returned (.tuple #[str x, .int .i64 a, .int .i64 p]) = .returned (.tuple #[str y, .int .i64 b, .int .i64 q]) := by rw [h, h2, h3]
set_option maxRecDepth 20000 in
set_option maxHeartbeats 1000000 in
theorem text_any (h : Sl w A c bs) : Calls Try.prog 70 #[.slice A bs.length c] w fun e w' => ∃ (t : List UInt8) (n e2 : Int), e = .returned (.tuple #[str t, .int .i64 n, .int .i64 e2]) ∧ (txtL bs ≤ bs.length → t = unT bs ∧ n = (txtL bs : Int) ∧ e2 = 0) ∧ (bs.length < txtL bs → e2 = 2 ∧ n = 0) ∧ Ext w w' := by
  have hl := h.len
  obtain ⟨i0, hi, hz0, hz1, hz2⟩ := info_parts infoU8
  have hsl : ∀ (W : World) (A' : Option Addr) (c' n : Nat) (t : List UInt8), Rd W A' t → n = t.length → (convert 30 9 (.slice A' n c')).run Try.prog W = .ok (.string ⟨t.toArray⟩) W := fun W A' c' n t hr hn => by
    subst hn
    exact run_string_of 30 9 5 Try.underlying30 Try.underlying5 Try.underlying9 hr
  have HSL := Lib.hid hsl
  clear hsl
  have HRD := Lib.hid h.rd
  go_enter Try.func70, Try.ntmps70
  go_wp2
  go_loopw [5, 6] (fun v i wr => ∃ (k d : Nat) (done : List UInt8) (A' : Option Addr) (c' : Nat), v = .slice A' d c' ∧ i = .int .i64 k ∧ k ≤ bs.length ∧ Hid (d = done.length) ∧ d ≤ k ∧ Own 5 w.heap.size wr A' c' done ∧ Hid (txtL bs = k + txtL (bs.drop k) ∧ unT bs = done ++ unT (bs.drop k)) ∧ Ext w wr) (fun _ i _ => bs.length - (intOf i).toNat)
  case atStart => exact ⟨0, 0, [], none, 0, rfl, rfl, Nat.zero_le _, Lib.hid rfl, Nat.le_refl _, own_nil, Lib.hid ⟨by simp, by simp⟩, Below.refl _ _⟩
  case round =>
    obtain ⟨k, d, done, A', c', rfl, rfl, hk, HD, hd, hown, HT, hE⟩ := hrel
    have hsz := hE.size
    by_cases hlt : k < bs.length
    · obtain ⟨b, off, rfl, hc⟩ := (h.rd.ext hE) (by omega)
      obtain ⟨x, hx⟩ : ∃ x, bs[k] = x := ⟨_, rfl⟩
      have hat : at8 bs k = (x.toNat : Int) := by simp [at8, hlt, hx]
      have hck : ∀ w', Ext wr w' → w'.cell? ⟨b, off + k, none⟩ = some (.int .u8 (x.toNat : Int)) := fun w' h => by rw [← hat]; exact h.cell (hc k hlt)
      have hdr : bs.drop k = x :: bs.drop (k + 1) := by rw [List.drop_eq_getElem_cons hlt, hx]
      rw [hdr] at HT
      clear hdr hx hat
      by_cases h0 : x = 0
      · subst h0
        have hck0 : wr.cell? ⟨b, off + k, none⟩ = some (.int .u8 0) := hck wr (Below.refl _ _)
        by_cases hlt2 : k + 1 < bs.length
        · obtain ⟨y, hy⟩ : ∃ y, bs[k + 1] = y := ⟨_, rfl⟩
          have hat2 : at8 bs (k + 1) = (y.toNat : Int) := by simp [at8, hlt2, hy]
          have hck2 := hc (k + 1) hlt2
          rw [hat2] at hck2
          have hdr : bs.drop (k + 1) = y :: bs.drop (k + 1 + 1) := by rw [List.drop_eq_getElem_cons hlt2, hy]
          clear hc hck
          by_cases h255 : y = 255
          · subst h255
            rw [show ((255 : UInt8).toNat : Int) = 255 from rfl] at hck2
            have HT2 : Hid (txtL bs = (k + 2) + txtL (bs.drop (k + 2)) ∧ unT bs = (done ++ [0]) ++ unT (bs.drop (k + 2))) := Lib.hid (by
              rw [HT.out.1, HT.out.2, hdr, (txtL_esc _).1, (txtL_esc _).2, show k + 2 = k + 1 + 1 from rfl]
              exact ⟨by omega, by simp⟩)
            obtain rfl := HD.out
            clear hdr hy hat2 HT
            go_wp2_with (at_builtin; refine wpList_append_own _ rfl _ _ 30 rfl w.heap.size 5 i0 (.int .u8 0) 1 1 Try.underlying30 hi hz0 hz1 hz2 rfl (by decide) _ _ _ rfl (World.ownsRow.alloc hown _) ⟨wr.heap.size, 0, none⟩ 1 1 [.int .u8 0] rfl rfl (cell_one_new _ _ _) (by simp [Value.oneCell']) (by simp [maxLen]; omega) (by omega) (by simp; omega) ?_; intro v' w4 hown4 hgrow4 _; obtain ⟨A4, c4, rfl, ho4, hX4⟩ := own_push 0 (exc_refl _ wr) hown hgrow4 hown4 rfl; have hE4 := U8.to_ext hX4 hE (Nat.le_refl _); clear hown4 hgrow4)
            go_roundw
            case rel => exact ⟨k + 2, _, _, A4, c4, rfl, by go_num, by omega, Lib.hid (by simp), by omega, ho4, HT2, hE4⟩
            case measure => first | (simp [intOf]; done) | (simp [intOf]; omega)
          · have hne : ¬ (y.toNat : Int) = 255 := fun e => h255 (UInt8.toNat_inj.1 (by simpa using (show y.toNat = 255 by omega)))
            have hne2 : ((y.toNat : Int) == 255) = false := by simpa using hne
            have HT2 : Hid (txtL bs = k + 1 ∧ unT bs = done) := Lib.hid (by
              have := txtL_zero (bs.drop (k + 1)) (by rw [hdr]; simpa using h255)
              rw [HT.out.1, HT.out.2, this.1, this.2]
              exact ⟨rfl, by simp⟩)
            have hs := HSL.out wr A' c' d done (hown.sl (by rw [← HD.out]; omega)).rd HD.out
            clear hdr hy hat2 HT
            go_wp2
            refine bodyPost_ret (results_tmp3 rfl _ _ _) rfl ⟨done, (k : Int) + 1, 0, rfl, fun _ => ⟨HT2.out.2.symm, by rw [HT2.out.1]; simp, rfl⟩, fun h => ?_, hE⟩
            rw [HT2.out.1] at h
            omega
        · clear hc hck
          have HT2 : Hid (txtL bs = k + 1 ∧ unT bs = done) := Lib.hid (by
            have := txtL_zero (bs.drop (k + 1)) (by rw [List.drop_eq_nil_of_le (by omega)]; simp)
            rw [HT.out.1, HT.out.2, this.1, this.2]
            exact ⟨rfl, by simp⟩)
          have hs := HSL.out wr A' c' d done (hown.sl (by rw [← HD.out]; omega)).rd HD.out
          clear HT
          go_wp2
          refine bodyPost_ret (results_tmp3 rfl _ _ _) rfl ⟨done, (k : Int) + 1, 0, rfl, fun _ => ⟨HT2.out.2.symm, by rw [HT2.out.1]; simp, rfl⟩, fun h => ?_, hE⟩
          rw [HT2.out.1] at h
          omega
      · have hne : ¬ (x.toNat : Int) = 0 := fun e => h0 (UInt8.toNat_inj.1 (by simpa using (show x.toNat = 0 by omega)))
        have hne2 : ((x.toNat : Int) != 0) = true := by simpa using hne
        have HT2 : Hid (txtL bs = (k + 1) + txtL (bs.drop (k + 1)) ∧ unT bs = (done ++ [x]) ++ unT (bs.drop (k + 1))) := Lib.hid (by
          rw [HT.out.1, HT.out.2, (txtL_cons h0 _).1, (txtL_cons h0 _).2]
          exact ⟨by omega, by simp⟩)
        have hck0 := hck wr (Below.refl _ _)
        obtain rfl := HD.out
        clear HT hc hck
        go_wp2_with (at_builtin; refine wpList_append_own _ rfl _ _ 30 rfl w.heap.size 5 i0 (.int .u8 0) 1 1 Try.underlying30 hi hz0 hz1 hz2 rfl (by decide) _ _ _ rfl (World.ownsRow.alloc hown _) ⟨wr.heap.size, 0, none⟩ 1 1 [.int .u8 (x.toNat : Int)] rfl rfl (cell_one_new _ _ _) (by simp [Value.oneCell']) (by simp [maxLen]; omega) (by omega) (by simp; omega) ?_; intro v' w4 hown4 hgrow4 _; obtain ⟨A4, c4, rfl, ho4, hX4⟩ := own_push x (exc_refl _ wr) hown hgrow4 hown4 rfl; have hE4 := U8.to_ext hX4 hE (Nat.le_refl _); clear hown4 hgrow4)
        go_roundw
        case rel => exact ⟨k + 1, _, _, A4, c4, rfl, by go_num, by omega, Lib.hid (by simp), by omega, ho4, HT2, hE4⟩
        case measure => first | (simp [intOf]; done) | (simp [intOf]; omega)
    · obtain rfl : k = bs.length := by omega
      have HT2 : Hid (txtL bs = bs.length + 1) := Lib.hid (by rw [HT.out.1, List.drop_length]; rfl)
      go_wp2
      refine bodyPost_ret (results_tmp3 rfl _ _ _) rfl ⟨[], 0, 2, rfl, fun h => ?_, fun _ => ⟨rfl, rfl⟩, hE⟩
      rw [HT2.out] at h
      omega
end
end Go.Proofs.Ytbjfgnkjmfcokaa
