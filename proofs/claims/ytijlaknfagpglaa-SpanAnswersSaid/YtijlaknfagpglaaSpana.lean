/- Contracts of package span's functions over keys. No condition but that each list lies in memory as a slice. -/
import Derived.Test.YtijlaknfagpglaaBcmp
import Derived.Test.YtijlaknfagpglaaBlk
import Derived.Test.YtijlaknfagpglaaSpanl
namespace Go.Proofs.Ytijlaknfagpglaa
open Go.RowKit Go.Proofs
/-- 'copy(out, b)' into a block of zeros that is long enough. -/
theorem run_copy8 {P : Program} {w : World} {dT sT ty elem : TypeId} {g m : Nat} {A : Option Addr} {c : Nat} {bs : List UInt8} (hu : P.underlying dT = some (.slice elem)) (hs : (P.info? elem).map (·.size) = some 1)
    (hb : Blk elem w g (List.replicate m 0)) (h : Rd w A bs) (hm : bs.length ≤ m) :
    ∃ w', (Builtin.copy_ #[dT, sT] ty #[.slice (some ⟨g, 0, none⟩) bs.length m, .slice A bs.length c]).run P w = .ok (goInt bs.length) w' ∧ Blk elem w' g (bs ++ List.replicate (m - bs.length) 0) ∧ w.grownBy w' (some g) := by
  by_cases h0 : bs.length = 0
  · have : bs = [] := List.eq_nil_of_length_eq_zero h0
    subst this
    refine ⟨w, ?_, by simpa using hb, World.grownBy.refl w _⟩
    simpa using run_copy_none (P := P) w dT sT ty elem (some ⟨g, 0, none⟩) A 0 m 0 c hu hs (by simp)
  · obtain ⟨b, off, rfl, hc⟩ := h (by omega)
    have hr := run_copy_row (P := P) w dT sT ty elem g 0 bs.length m ⟨b, off, none⟩ bs.length c (cells8 (List.replicate m 0)).toArray elem (cells8 bs) hu hs hb (by simp [length_cells8]) (fun j v hj => by
      have hjl : j < bs.length := by simpa [length_cells8] using (List.getElem?_eq_some_iff.1 hj).1
      rw [cells8_at hjl] at hj
      injection hj with hj
      rw [Addr.add_lit, hc j hjl, hj]) (by simp [length_cells8]; omega) (cells8_one bs)
    rw [length_cells8] at hr
    refine ⟨_, hr, ?_, ⟨rfl, rfl, rfl, by simp, fun k _ hk => setRow_other w g k _ (fun e => hk (by rw [e]))⟩⟩
    unfold Blk
    rw [setRow_heap w g _ _ elem (0, 0) hb]
    congr 2
    simp [cells8]
theorem fresh_any {A : Option Addr} {c n room : Nat} {bs : List UInt8} {w : World} (h : Sl w A c bs) (hn : n = bs.length) (hr : room ≤ 1) :
    Calls Try.prog 44 #[.slice A n c, .int .i64 (room : Int)] w fun e w' => ∃ g, e = .returned (.slice (some ⟨g, 0, none⟩) bs.length (bs.length + room)) ∧ w.heap.size ≤ g ∧ Blk 5 w' g (bs ++ List.replicate room 0) ∧ Ext w w' := by
  subst hn
  obtain ⟨i0, hi, hz0, hz1, hz2⟩ := info_parts infoU8
  have hl := h.len
  go_enter Try.func44, Try.ntmps44
  go_wp2_with (at_make; refine wpList_make_any _ rfl _ _ 22 rfl 5 i0 (.int .u8 0) 1 Try.underlying22 hi hz0 hz1 _ _ _ _ bs.length (bs.length + room) rfl rfl rfl (by omega) (by omega) (by rw [hz2]; omega) (by omega) ?_; intro w1 hb1 hgrow1)
  have hm := Blk.made hb1
  have hE1 := ext_make hgrow1
  clear hb1 hgrow1
  obtain ⟨w2, hrun, hb2, hg2⟩ := run_copy8 (ty := 3) (dT := 22) (sT := 22) (c := c) Try.underlying22 (by kernel_rfl) hm (h.rd.ext hE1) (by omega)
  rw [show bs.length + room - bs.length = room by omega] at hb2
  have hE2 := ext_only hE1 hg2 (Nat.le_refl _)
  rw [hrun]
  go_wp2
  go_ret
  exact ⟨_, rfl, Nat.le_refl _, hb2, hE2⟩
theorem isKey_any {A : Option Addr} {c n : Nat} {bs : List UInt8} {w : World} (hn : n = bs.length) :
    Calls Try.prog 52 #[.slice A n c] w fun e w' => e = .returned (.bool (isKeyB bs)) ∧ w = w' := by
  subst hn
  by_cases h1 : 1 ≤ bs.length
  · by_cases h2 : bs.length ≤ 24
    · have hq := Lib.hid (isKeyB_iff.2 ⟨h1, h2⟩)
      go_enter Try.func52, Try.ntmps52
      go_wp2
      go_ret
      exact ⟨ret_bool (by rw [hq.out]; try (first | rfl | (simp; omega))), rfl⟩
    · have hq := Lib.hid (show isKeyB bs = false by simp [isKeyB, h2])
      go_enter Try.func52, Try.ntmps52
      go_wp2
      go_ret
      exact ⟨ret_bool (by rw [hq.out]; try (first | rfl | (simp; omega))), rfl⟩
  · have hq := Lib.hid (show isKeyB bs = false by simp [isKeyB, h1])
    go_enter Try.func52, Try.ntmps52
    go_wp2
    go_ret
    exact ⟨ret_bool (by rw [hq.out]; try (first | rfl | (simp; omega))), rfl⟩
theorem rkey_any {A : Option Addr} {c n : Nat} {bs : List UInt8} {w : World} (hn : n = bs.length) :
    Calls Try.prog 71 #[.slice A n c] w fun e w' => e = .returned (.bool (isKeyB bs)) ∧ w = w' := by
  subst hn
  by_cases h1 : 1 ≤ bs.length
  · by_cases h2 : bs.length ≤ 24
    · have hq := Lib.hid (isKeyB_iff.2 ⟨h1, h2⟩)
      go_enter Try.func71, Try.ntmps71
      go_wp2
      go_ret
      exact ⟨ret_bool (by rw [hq.out]; try (first | rfl | (simp; omega))), rfl⟩
    · have hq := Lib.hid (show isKeyB bs = false by simp [isKeyB, h2])
      go_enter Try.func71, Try.ntmps71
      go_wp2
      go_ret
      exact ⟨ret_bool (by rw [hq.out]; try (first | rfl | (simp; omega))), rfl⟩
  · have hq := Lib.hid (show isKeyB bs = false by simp [isKeyB, h1])
    go_enter Try.func71, Try.ntmps71
    go_wp2
    go_ret
    exact ⟨ret_bool (by rw [hq.out]; try (first | rfl | (simp; omega))), rfl⟩
/-- How far a row goes without the bytes FF at its end. -/
def Stem (bs : List UInt8) (k : Nat) : Prop := k ≤ bs.length ∧ bs.drop k = List.replicate (bs.length - k) 255
theorem Stem.start (bs : List UInt8) : Stem bs bs.length := ⟨Nat.le_refl _, by simp⟩
theorem Stem.step {bs : List UInt8} {k : Nat} (h : Stem bs (k + 1)) (he : at8 bs k = 255) : Stem bs k := by
  have hk : k < bs.length := h.1
  refine ⟨by omega, ?_⟩
  rw [List.drop_eq_getElem_cons hk, h.2, show bs.length - k = (bs.length - (k + 1)) + 1 by omega, List.replicate_succ]
  congr 1
  have : (bs[k].toNat : Int) = 255 := by rw [← he]; simp [at8, hk]
  apply UInt8.toNat_inj.1
  show bs[k].toNat = 255
  omega
theorem Stem.up_zero {bs : List UInt8} (h : Stem bs 0) : upB bs = [] := by
  have := h.2
  rw [List.drop_zero] at this
  rw [this]
  exact upB_app [] _
theorem Stem.up_succ {bs : List UInt8} {k : Nat} (h : Stem bs (k + 1)) (he : at8 bs k ≠ 255) : upB bs = (bs.take (k + 1)).set k (b8 (at8 bs k + 1)) := by
  have hk : k < bs.length := h.1
  have e1 : bs = bs.take (k + 1) ++ List.replicate (bs.length - (k + 1)) 255 := by rw [← h.2, List.take_append_drop]
  have e2 : at8 bs k = (bs[k].toNat : Int) := by simp [at8, hk]
  have e3 : bs[k] ≠ 255 := fun e => he (by rw [e2, e]; rfl)
  have e4 : b8 (at8 bs k + 1) = bs[k] + 1 := by
    apply UInt8.toNat_inj.1
    have h1 := b8_toNat (at8 bs k + 1)
    have h2 := bs[k].toNat_lt
    rw [UInt8.toNat_add]
    show (b8 (at8 bs k + 1)).toNat = (bs[k].toNat + 1) % 256
    omega
  rw [e4]
  conv => lhs; rw [e1]
  rw [upB_app, List.take_succ_eq_append_getElem hk, upB_snoc _ _ e3, List.set_append_right _ _ (by simp; omega)]
  rw [show k - (bs.take k).length = 0 by simp; omega]
  rfl
set_option maxHeartbeats 400000 in
theorem stem_any {A : Option Addr} {c n : Nat} {bs : List UInt8} {w : World} (h : Sl w A c bs) (hn : n = bs.length) :
    Calls Try.prog 68 #[.slice A n c] w fun e w' => ∃ k, e = .returned (.slice A k k) ∧ Stem bs k ∧ (k = 0 ∨ at8 bs (k - 1) ≠ 255) ∧ w = w' := by
  subst hn
  have hl := h.len
  have hle := h.le
  have hcap := h.cap
  go_enter Try.func68, Try.ntmps68
  go_wp2
  go_loop [3] (fun i => ∃ k : Nat, i = .int .i64 k ∧ k ≤ bs.length ∧ Stem bs k) (fun i => (intOf i).toNat)
  case atStart => exact ⟨bs.length, rfl, Nat.le_refl _, Stem.start bs⟩
  case round =>
    obtain ⟨k, rfl, hkl, hst⟩ := hrel
    by_cases hk : 0 < k
    · obtain ⟨j, rfl⟩ : ∃ j, k = j + 1 := ⟨k - 1, by omega⟩
      obtain ⟨b, off, rfl, hc⟩ := h.rd (by omega)
      have hck := hc j (by omega)
      clear hc
      by_cases he : at8 bs j = 255
      · have hs2 := hst.step he
        have h1 : at8 bs j ≤ 255 := by omega
        have h2 : 255 ≤ at8 bs j := by omega
        clear he
        go_wp2
        go_round
        case rel => exact ⟨j, by go_num, by omega, hs2⟩
        case measure => simp [intOf]
      · have h1 : at8 bs j < 255 := by have := at8_bd bs j; omega
        have hne : (at8 bs j == 255) = false := by simp; omega
        have HE := Lib.hid he
        clear he
        go_wp2
        go_ret
        exact ⟨j + 1, rfl, hst, .inr HE.out, rfl⟩
    · obtain rfl : k = 0 := by omega
      go_wp2
      go_ret
      exact ⟨0, rfl, hst, .inl rfl, rfl⟩
end Go.Proofs.Ytijlaknfagpglaa
