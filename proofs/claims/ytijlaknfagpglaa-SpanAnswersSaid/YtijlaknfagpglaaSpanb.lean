/- Contracts of package span's functions that make a key, and of the reference's. No condition but that each list lies in memory as a slice. -/
import Derived.Test.YtijlaknfagpglaaSpana
namespace Go.Proofs.Ytijlaknfagpglaa
open Go.RowKit Go.Proofs
theorem ret_slice {A : Option Addr} {n n' c : Nat} (h : n = n') : Ending.returned (.slice A n c) = .returned (.slice A n' c) := by rw [h]
theorem Rd.take {w : World} {A : Option Addr} {bs : List UInt8} (h : Rd w A bs) (k : Nat) : Rd w A (bs.take k) := fun hn => by
  have hl : (bs.take k).length ≤ bs.length := by simp; omega
  obtain ⟨b, off, hA, hc⟩ := h (by omega)
  refine ⟨b, off, hA, fun i hi => ?_⟩
  have hi2 : i < k := by simp at hi; omega
  rw [hc i (by omega)]
  unfold at8
  simp only [List.getD_eq_getElem?_getD]
  rw [List.getElem?_take, if_pos hi2]
theorem Sl.take {w : World} {A : Option Addr} {c : Nat} {bs : List UInt8} (h : Sl w A c bs) (k c' : Nat) (hc : (bs.take k).length ≤ c') (hm : c' ≤ 9223372036854775807) : Sl w A c' (bs.take k) :=
  ⟨h.rd.take k, by have := h.len; simp; omega, hc, hm⟩
theorem fresh0_any {A : Option Addr} {c n : Nat} {bs : List UInt8} {w : World} (h : Sl w A c bs) (hn : n = bs.length) :
    Calls Try.prog 44 #[.slice A n c, .int .i64 0] w fun e w' => ∃ g, e = .returned (.slice (some ⟨g, 0, none⟩) bs.length bs.length) ∧ w.heap.size ≤ g ∧ Blk 5 w' g bs ∧ Ext w w' := by
  simpa using fresh_any (room := 0) h hn (by omega)
theorem fresh1_any {A : Option Addr} {c n : Nat} {bs : List UInt8} {w : World} (h : Sl w A c bs) (hn : n = bs.length) :
    Calls Try.prog 44 #[.slice A n c, .int .i64 1] w fun e w' => ∃ g, e = .returned (.slice (some ⟨g, 0, none⟩) bs.length (bs.length + 1)) ∧ w.heap.size ≤ g ∧ Blk 5 w' g (bs ++ [0]) ∧ Ext w w' := by
  simpa using fresh_any (room := 1) h hn (by omega)
theorem Blk.whole {e : TypeId} {w : World} {g : Nat} {l : List UInt8} (h : Blk e w g l) {B : Nat} (hB : B ≤ g) (hm : l.length ≤ 9223372036854775807) : Own e B w (some ⟨g, 0, none⟩) l.length l := h.own hB (by simp) (Nat.le_refl _) hm
set_option maxHeartbeats 400000 in
theorem up_any {A : Option Addr} {c n : Nat} {bs : List UInt8} {w : World} (h : Sl w A c bs) (hn : n = bs.length) :
    Calls Try.prog 45 #[.slice A n c] w fun e w' => ∃ A' c', e = .returned (.slice A' (upB bs).length c') ∧ Own 5 w.heap.size w' A' c' (upB bs) ∧ Ext w w' := by
  subst hn
  have hl := h.len
  go_enter Try.func45, Try.ntmps45
  go_wp2_with fail
  refine (stem_any h rfl).mono ?_
  rintro e w1 ⟨k, rfl, hst, hk, rfl⟩
  have hkl := hst.1
  have hlt : (bs.take k).length = k := by simp; omega
  have hs := h.take k k (by omega) (by omega)
  have HL := Lib.hid hlt
  clear hlt
  go_wp2_with fail
  refine (fresh0_any hs HL.out.symm).mono ?_
  rintro e w1 ⟨g, rfl, hg, hb, hE⟩
  rw [HL.out]
  rcases Nat.eq_zero_or_pos k with h0 | hpos
  · subst h0
    have hu := hst.up_zero
    have ho : Own 5 w.heap.size w1 (some ⟨g, 0, none⟩) 0 (upB bs) := by
      rw [hu]
      simpa using hb.whole hg (by simp)
    have hul : (upB bs).length = 0 := by rw [hu]; rfl
    have HU := Lib.hid hul
    clear hu hul hk
    go_wp2
    go_ret
    exact ⟨some ⟨g, 0, none⟩, 0, ret_slice HU.out.symm, ho, hE⟩
  · obtain ⟨j, rfl⟩ : ∃ j, k = j + 1 := ⟨k - 1, by omega⟩
    have hne : at8 bs j ≠ 255 := by
      rcases hk with hk | hk
      · omega
      · simpa using hk
    have hbd := at8_bd bs j
    have hu := hst.up_succ hne
    have hlt2 : at8 bs j < 255 := by omega
    have hat : at8 (bs.take (j + 1)) j = at8 bs j := by
      unfold at8
      simp only [List.getD_eq_getElem?_getD]
      rw [List.getElem?_take, if_pos (by omega)]
    have hcell : w1.cell? ⟨g, j, none⟩ = some (.int .u8 (at8 bs j)) := by
      rw [hb.cell (by rw [HL.out]; omega), hat]
    have hfr := hb.frozen j
    have hb2 := hb.set_ j (b8 (at8 bs j + 1))
    rw [← hu, b8_toNat, Int.emod_eq_of_lt (by omega) (by omega)] at hb2
    have hul : (upB bs).length = j + 1 := by rw [hu, List.length_set, HL.out]
    have hE2 := ext_store (p := ⟨g, j, none⟩) hE hg (.int .u8 (at8 bs j + 1))
    have ho := hb2.whole hg (by rw [hul]; omega)
    rw [hul] at ho
    have HU := Lib.hid hul
    clear hu hul hk hne hat hb hb2
    go_wp2
    go_ret
    exact ⟨some ⟨g, 0, none⟩, _, ret_slice HU.out.symm, ho, hE2⟩
theorem own_append1 {e : TypeId} {w0 w : World} {v : Value} {n : Nat} {bs : List UInt8} {b : UInt8} (h : w.ownsRow w0.heap.size e 1 v n (cells8 bs ++ [.int .u8 (b.toNat : Int)])) (hn : n = bs.length + 1) : ∃ A c, v = .slice A (bs ++ [b]).length c ∧ Own e w0.heap.size w A c (bs ++ [b]) := by
  subst hn
  obtain ⟨A, c, rfl⟩ := slice_of_own h
  refine ⟨A, c, by simp, ?_⟩
  unfold Own
  rw [cells8_append, List.length_append]
  exact h
set_option maxHeartbeats 400000 in
theorem next_any {A : Option Addr} {c n : Nat} {bs : List UInt8} {w : World} (h : Sl w A c bs) (hn : n = bs.length) :
    Calls Try.prog 19 #[.slice A n c] w fun e w' => ∃ A' c', e = .returned (.slice A' (nextB bs).length c') ∧ Own 5 w.heap.size w' A' c' (nextB bs) ∧ Ext w w' := by
  subst hn
  obtain ⟨i0, hi, hz0, hz1, hz2⟩ := info_parts infoU8
  have hl := h.len
  have hcap := h.cap
  by_cases h24 : bs.length < 24
  · have hnx : nextB bs = bs ++ [0] := by unfold nextB; rw [if_pos h24]
    rw [hnx]
    clear hnx
    go_enter Try.func19, Try.ntmps19
    go_wp2_with fail
    refine (fresh1_any h rfl).mono ?_
    rintro e w1 ⟨g, rfl, hg, hb, hE⟩
    have ho := hb.own (bs := bs) hg (by simp) (by simp) (by simp; omega)
    rw [show (bs ++ [(0 : UInt8)]).length = bs.length + 1 by simp] at ho
    go_wp2_with (at_builtin; refine wpList_append_own _ rfl _ _ 22 rfl w.heap.size 5 i0 (.int .u8 0) 1 1 Try.underlying22 hi hz0 hz1 hz2 rfl (by decide) _ _ _ rfl (World.ownsRow.alloc ho _) ⟨w1.heap.size, 0, none⟩ 1 1 [.int .u8 0] rfl rfl (cell_one_new _ _ _) (by simp [Value.oneCell']) (by simp [maxLen]; omega) (by omega) (by have := hE.size; simp; omega) ?_; intro v' w2 hown2 hgrow2 _)
    have hE2 := ext_append hE ho hgrow2
    obtain ⟨A', c', rfl, ho2⟩ := own_append1 (b := 0) hown2 rfl
    clear hown2 hgrow2 ho hb
    go_wp2
    go_ret
    exact ⟨A', c', rfl, ho2, hE2⟩
  · have hnx : nextB bs = upB (bs.take 24) := by unfold nextB; rw [if_neg h24]
    rw [hnx]
    clear hnx
    have hle := h.le
    have hs := h.take 24 24 (by simp; omega) (by omega)
    have hl24 : (bs.take 24).length = 24 := by simp; omega
    have HL := Lib.hid hl24
    clear hl24
    go_enter Try.func19, Try.ntmps19
    go_wp2_with fail
    refine (up_any hs HL.out.symm).mono ?_
    rintro e w1 ⟨A', c', rfl, ho, hE⟩
    go_wp2
    go_ret
    exact ⟨A', c', rfl, ho, hE⟩
theorem Own.len_le {e : TypeId} {B : Nat} {w : World} {A : Option Addr} {c : Nat} {bs : List UInt8} (h : Own e B w A c bs) (hl : bs.length ≤ 140737488355328) : Sl w A c bs := h.sl hl
theorem from_any {A : Option Addr} {c n : Nat} {bs : List UInt8} {w : World} (h : Sl w A c bs) (hn : n = bs.length) :
    Calls Try.prog 48 #[.slice A n c] w fun e w' => ∃ A' c', e = .returned (.slice A' (fromB bs).length c') ∧ Own 5 w.heap.size w' A' c' (fromB bs) ∧ Ext w w' := by
  subst hn
  obtain ⟨q, hq⟩ : ∃ q, isKeyB bs = q := ⟨_, rfl⟩
  have hf : fromB bs = if q then bs else nextB bs := by unfold fromB; rw [hq]
  have hl := h.len
  cases q
  · have HF := Lib.hid hf
    have HQ := Lib.hid hq
    clear hf hq
    go_enter Try.func48, Try.ntmps48
    go_wp2_with fail
    refine (isKey_any (bs := bs) rfl).mono ?_
    rintro e w1 ⟨rfl, rfl⟩
    rw [HQ.out]
    go_wp2_with fail
    refine (next_any h rfl).mono ?_
    rintro e w1 ⟨A', c', rfl, ho, hE⟩
    go_wp2
    go_ret
    have e1 := HF.out
    simp only [Bool.false_eq_true, if_false] at e1
    rw [e1]
    exact ⟨A', c', rfl, ho, hE⟩
  · have HF := Lib.hid hf
    have HQ := Lib.hid hq
    clear hf hq
    go_enter Try.func48, Try.ntmps48
    go_wp2_with fail
    refine (isKey_any (bs := bs) rfl).mono ?_
    rintro e w1 ⟨rfl, rfl⟩
    rw [HQ.out]
    go_wp2_with fail
    refine (fresh0_any h rfl).mono ?_
    rintro e w1 ⟨g, rfl, hg, hb, hE⟩
    have ho := hb.whole hg (by omega)
    go_wp2
    go_ret
    have e1 := HF.out
    simp only [if_true] at e1
    rw [e1]
    exact ⟨_, _, rfl, ho, hE⟩
set_option maxHeartbeats 400000 in
theorem common_any {A B : Option Addr} {c d n m : Nat} {xs ys : List UInt8} {w : World} (ha : Sl w A c xs) (hb : Sl w B d ys) (hn : n = xs.length) (hm : m = ys.length) :
    Calls Try.prog 16 #[.slice A n c, .slice B m d] w fun e w' => e = .returned (.int .i64 (comB xs ys : Int)) ∧ Ext w w' := by
  subst hn
  subst hm
  have hla := ha.len
  have hlb := hb.len
  rcases Nat.lt_trichotomy xs.length ys.length with hsh | hsh | hsh <;>
  · go_enter Try.func16, Try.ntmps16
    go_wp2
    go_loopw [13] (fun i wr => ∃ k : Nat, k ≤ xs.length ∧ k ≤ ys.length ∧ i = .int .i64 k ∧ Agree xs ys k ∧ Ext w wr) (fun i _ => xs.length - (intOf i).toNat)
    case atStart => exact ⟨0, Nat.zero_le _, Nat.zero_le _, rfl, Agree.zero _ _, Below.refl _ _⟩
    case round =>
      obtain ⟨k, hka, hkb, rfl, hag, hE⟩ := hrel
      by_cases hlt : k < xs.length ∧ k < ys.length
      · obtain ⟨hlt, hlt2⟩ := hlt
        obtain ⟨b1, o1, rfl, hc1⟩ := (ha.rd.ext hE) (by omega)
        obtain ⟨b2, o2, rfl, hc2⟩ := (hb.rd.ext hE) (by omega)
        have hd1 := hc1 k hlt
        have hd2 := hc2 k hlt2
        clear hc1 hc2
        by_cases he : at8 xs k = at8 ys k
        · have hag2 := hag.succ hlt hlt2 he
          rw [← he] at hd2
          clear he
          go_wp2
          go_quiet (fail)
          go_wp2
          go_roundw
          case rel => exact ⟨k + 1, by omega, by omega, by go_num, hag2, hE.trans (ext_drewN _ _)⟩
          case measure => simp [intOf]; omega
        · have hne : (at8 xs k == at8 ys k) = false := by simpa using he
          have hcm := Lib.hid (hag.com_ne hlt hlt2 he)
          clear he
          go_wp2
          go_quiet (fail)
          go_wp2
          go_ret
          exact ⟨ret_int (by rw [hcm.out]), hE.trans (ext_drewN _ _)⟩
      · have hke : k = xs.length ∨ k = ys.length := by omega
        have hcm := Lib.hid (hag.com_end hka hke)
        clear hke
        have hnk : ¬ (k < xs.length ∧ k < ys.length) := hlt
        go_wp2
        go_ret
        exact ⟨ret_int (by rw [hcm.out]; omega), hE⟩
end Go.Proofs.Ytijlaknfagpglaa
