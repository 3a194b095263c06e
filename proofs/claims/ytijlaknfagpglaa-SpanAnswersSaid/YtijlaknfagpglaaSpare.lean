/- Contracts of Spare and Kept: a list with marked room behind it. No condition but that what comes in lies in memory as a slice. -/
import Derived.Test.YtijlaknfagpglaaRefa
import Derived.Test.YtijlaknfagpglaaBlk
namespace Go.Proofs.Ytijlaknfagpglaa
open Go.RowKit Go.Proofs
/-- The mark at place i. -/
def mark8 (i : Nat) : Int := bits .xor .i64 165 (i : Int) % 256
def marks (n : Nat) : List UInt8 := (List.range 64).map fun j => b8 (mark8 (n + j))
theorem mark8_bd (i : Nat) : 0 ≤ mark8 i ∧ mark8 i ≤ 255 := by
  unfold mark8
  omega
theorem length_marks (n : Nat) : (marks n).length = 64 := by simp [marks]
theorem at_marks {bs : List UInt8} {i : Nat} (h1 : bs.length ≤ i) (h2 : i < bs.length + 64) : at8 (bs ++ marks bs.length) i = mark8 i := by
  unfold at8
  have h : (bs ++ marks bs.length).getD i 0 = b8 (mark8 i) := by
    simp only [List.getD_eq_getElem?_getD]
    rw [List.getElem?_append_right h1]
    simp only [marks, List.getElem?_map, List.getElem?_range (show i - bs.length < 64 by omega), Option.map_some, Option.getD_some]
    rw [show bs.length + (i - bs.length) = i by omega]
  rw [h, b8_toNat]
  have := mark8_bd i
  omega
/-- What Spare makes. -/
def Spared (w : World) (g : Nat) (bs : List UInt8) : Prop := Blk 5 w g (bs ++ marks bs.length)
theorem Spared.sl {w : World} {g : Nat} {bs : List UInt8} (h : Spared w g bs) (hl : bs.length ≤ 140737488355328) : Sl w (some ⟨g, 0, none⟩) (bs.length + 64) bs := by
  have := Blk.sl h (bs := bs) (by simp) (by simp) hl (by simp [length_marks]; omega)
  simpa [length_marks] using this
theorem at_full {bs : List UInt8} {k : Nat} (h : k < bs.length) : at8 (bs ++ marks bs.length) k = at8 bs k := by
  unfold at8
  simp only [List.getD_eq_getElem?_getD]
  rw [List.getElem?_append_left h]
set_option maxHeartbeats 400000 in
set_option maxRecDepth 20000 in
theorem spare_any {A : Option Addr} {c : Nat} {bs : List UInt8} {w : World} (h : Sl w A c bs) :
    Calls Try.prog 57 #[.slice A bs.length c] w fun e w' => ∃ g, e = .returned (.slice (some ⟨g, 0, none⟩) bs.length (bs.length + 64)) ∧ w.heap.size ≤ g ∧ Spared w' g bs ∧ Ext w w' := by
  obtain ⟨i0, hi, hz0, hz1, hz2⟩ := info_parts infoU8
  have hl := h.len
  go_enter Try.func57, Try.ntmps57
  go_wp2_with (at_make; refine wpList_make_any _ rfl _ _ 22 rfl 5 i0 (.int .u8 0) 1 Try.underlying22 hi hz0 hz1 _ _ _ _ (bs.length + 64) (bs.length + 64) rfl rfl (by omega) (by omega) (Nat.le_refl _) (by rw [hz2]; omega) (by omega) ?_; intro w1 hb1 hgrow1)
  have hm := Blk.made hb1
  have hE1 := ext_make hgrow1
  clear hb1 hgrow1
  obtain ⟨full, hfull⟩ : ∃ full, full = bs ++ marks bs.length := ⟨_, rfl⟩
  have hfl : full.length = bs.length + 64 := by rw [hfull]; simp [length_marks]
  have hF := Lib.hid hfull
  have hFl := Lib.hid hfl
  rw [← hfl, ← filled_zero] at hm
  clear hfull hfl
  go_loopw [4] (fun i wr => ∃ k : Nat, k ≤ bs.length + 64 ∧ i = .int .i64 k ∧ Blk 5 wr w.heap.size (filled full k) ∧ Ext w wr) (fun i _ => bs.length + 64 - (intOf i).toNat)
  case atStart => exact ⟨0, Nat.zero_le _, rfl, hm, hE1⟩
  case round =>
    obtain ⟨k, hk, rfl, hblk, hE⟩ := hrel
    by_cases hlt : k < bs.length + 64
    · have hkf : k < full.length := by have := hFl.out; omega
      have hkl : k < (filled full k).length := by rw [length_filled full (by omega)]; exact hkf
      have hc1 := hblk.cell hkl
      have hf1 := hblk.frozen k
      by_cases hb : k < bs.length
      · obtain ⟨b, off, rfl, hc⟩ := (h.rd.ext hE) (by omega)
        have hck := hc k hb
        clear hc
        go_wp2
        go_roundw
        case rel =>
          refine ⟨k + 1, by omega, by go_num, ?_, ext_store hE (Nat.le_refl _) _⟩
          rw [← filled_set hkf]
          have e : at8 bs k = (full[k].toNat : Int) := by
            have h1 : at8 full k = at8 bs k := by rw [hF.out]; exact at_full hb
            rw [← h1]; simp [at8, hkf]
          rw [e]
          exact hblk.set_ k _
        case measure => simp [intOf]; omega
      · go_wp2
        go_roundw
        case rel =>
          refine ⟨k + 1, by omega, by go_num, ?_, ext_store hE (Nat.le_refl _) _⟩
          rw [← filled_set hkf]
          have e : mark8 k = (full[k].toNat : Int) := by
            have h1 : at8 full k = mark8 k := by rw [hF.out]; exact at_marks (by omega) hlt
            rw [← h1]; simp [at8, hkf]
          unfold mark8 at e
          rw [e]
          exact hblk.set_ k _
        case measure => simp [intOf]; omega
    · obtain rfl : k = bs.length + 64 := by omega
      rw [← hFl.out, filled_all, hF.out] at hblk
      go_wp2
      go_ret
      exact ⟨_, rfl, Nat.le_refl _, hblk, hE⟩
set_option maxHeartbeats 400000 in
set_option maxRecDepth 20000 in
theorem kept_any {g d : Nat} {B : Option Addr} {bs : List UInt8} {w : World} (h : Spared w g bs) (hb : Sl w B d bs) :
    Calls Try.prog 64 #[.slice (some ⟨g, 0, none⟩) bs.length (bs.length + 64), .slice B bs.length d] w fun e w' => e = .returned (.bool true) ∧ Ext w w' := by
  have hl := hb.len
  have hsl := h.sl hl
  have htr : eqB bs bs = true := eqB_self bs
  go_enter Try.func64, Try.ntmps64
  go_wp2_with (go_at_call 18; refine (eqBytes_any hsl hb).mono ?_; rintro e w1 ⟨rfl, hE⟩)
  clear htr
  go_loopw [6] (fun i wr => ∃ k : Nat, bs.length ≤ k ∧ k ≤ bs.length + 64 ∧ i = .int .i64 k ∧ Ext w wr) (fun i _ => bs.length + 64 - (intOf i).toNat)
  case atStart => exact ⟨bs.length, Nat.le_refl _, by omega, rfl, hE⟩
  case round =>
    obtain ⟨k, hk0, hk, rfl, hE⟩ := hrel
    by_cases hlt : k < bs.length + 64
    · have hc : wr.cell? ⟨g, k, none⟩ = some (.int .u8 (bits .xor .i64 165 (k : Int) % 256)) := by
        rw [(Blk.ext h hE).cell (by simp [length_marks]; omega), at_marks hk0 hlt]
        rfl
      go_wp2
      go_roundw
      case rel => exact ⟨k + 1, by omega, by omega, by go_num, hE⟩
      case measure => simp [intOf]; omega
    · go_wp2
      go_ret
      exact ⟨rfl, hE⟩
end Go.Proofs.Ytijlaknfagpglaa
