/- Contracts of the references' small functions over lists of bytes. No condition but that each list lies in memory as a slice. -/
import Derived.Test.YtijlaknfagpglaaLists
import Derived.Test.YtijlaknfagpglaaChecked
import Derived.OwnWalk
import Derived.BigQuiet
import Derived.Deep.QuietTactic
namespace Go.Proofs.Ytijlaknfagpglaa
open Go.RowKit Go.Proofs
theorem infoU8 : (Try.prog.info? 5).map (fun i => (i.zero, i.size, i.bytes)) = some (some (.int .u8 0), 1, 1) := by kernel_rfl
set_option maxHeartbeats 400000 in
theorem copyBytes_any {A : Option Addr} {c : Nat} {bs : List UInt8} {w : World} (h : Sl w A c bs) :
    Calls Try.prog 46 #[.slice A bs.length c] w fun e w' => ∃ A' c', e = .returned (.slice A' bs.length c') ∧ Own 5 w.heap.size w' A' c' bs ∧ Ext w w' := by
  obtain ⟨i0, hi, hz0, hz1, hz2⟩ := info_parts infoU8
  have hl := h.len
  go_enter Try.func46, Try.ntmps46
  go_wp2_with (at_make; refine wpList_make_own _ rfl _ _ 22 rfl w.heap.size 5 i0 (.int .u8 0) 1 Try.underlying22 hi hz0 hz1 _ _ _ bs.length rfl rfl rfl (by rw [hz2]; omega) (by simp [maxLen]; omega) (Nat.le_refl _) ?_; intro w1 hown1 hgrow1)
  go_loopw [3, 4] (fun v i wr => ∃ k : Nat, k ≤ bs.length ∧ i = .int .i64 k ∧ wr.ownsRow w.heap.size 5 1 v k (cells8 (bs.take k)) ∧ Ext w wr) (fun _ i _ => bs.length - (intOf i).toNat)
  case atStart => exact ⟨0, Nat.zero_le _, rfl, hown1, ext_make hgrow1⟩
  case round =>
    obtain ⟨k, hk, rfl, hown, hE⟩ := hrel
    by_cases hlt : k < bs.length
    · obtain ⟨b, off, rfl, hc⟩ := (h.rd.ext hE) (by omega)
      have hck := hc k hlt
      clear hc
      go_wp2_with (at_builtin; refine wpList_append_own _ rfl _ _ 22 rfl w.heap.size 5 i0 (.int .u8 0) 1 1 Try.underlying22 hi hz0 hz1 hz2 rfl (by decide) _ _ _ rfl (hown.alloc _) ⟨wr.heap.size, 0, none⟩ 1 1 [.int .u8 (at8 bs k)] rfl rfl (cell_one_new _ _ _) (by simp [Value.oneCell']) (by simp [maxLen]; omega) (by omega) (by have := hE.size; simp; omega) ?_; intro v' w2 hown2 hgrow2 _)
      have hE2 := ext_append hE hown hgrow2
      rw [← take_at8 hlt] at hown2
      clear hgrow2 hown hE hck
      go_wp2
      go_roundw
      case rel => exact ⟨k + 1, by omega, by go_num, hown2, hE2⟩
      case measure => simp [intOf]; omega
    · obtain rfl : k = bs.length := by omega
      rw [List.take_length] at hown
      obtain ⟨A', c', rfl⟩ := slice_of_own hown
      go_wp2
      go_ret
      exact ⟨A', c', rfl, hown, hE⟩
theorem ret_int {k : IntKind} {a b : Int} (h : a = b) : Ending.returned (.int k a) = .returned (.int k b) := by rw [h]
theorem ret_bool {a b : Bool} (h : a = b) : Ending.returned (.bool a) = .returned (.bool b) := by rw [h]
theorem ext_drewN (w : World) (n : Nat) : Ext w (w.drewN n) := ⟨rfl, rfl, rfl, Nat.le_refl _, fun _ _ => rfl⟩
set_option maxHeartbeats 400000 in
theorem compare_any {A B : Option Addr} {c d : Nat} {xs ys : List UInt8} {w : World} (ha : Sl w A c xs) (hb : Sl w B d ys) :
    Calls Try.prog 15 #[.slice A xs.length c, .slice B ys.length d] w fun e w' => e = .returned (.int .i64 (cmpB xs ys)) ∧ Ext w w' := by
  have hla := ha.len
  have hlb := hb.len
  go_enter Try.func15, Try.ntmps15
  go_wp2
  go_loopw [5] (fun i wr => ∃ k : Nat, k ≤ xs.length ∧ k ≤ ys.length ∧ i = .int .i64 k ∧ Agree xs ys k ∧ Ext w wr) (fun i _ => xs.length - (intOf i).toNat)
  case atStart => exact ⟨0, Nat.zero_le _, Nat.zero_le _, rfl, Agree.zero _ _, Below.refl _ _⟩
  case round =>
    obtain ⟨k, hka, hkb, rfl, hag, hE⟩ := hrel
    by_cases hlt : k < xs.length
    · by_cases hlt2 : k < ys.length
      · obtain ⟨b1, o1, rfl, hc1⟩ := (ha.rd.ext hE) (by omega)
        obtain ⟨b2, o2, rfl, hc2⟩ := (hb.rd.ext hE) (by omega)
        have hd1 := hc1 k hlt
        have hd2 := hc2 k hlt2
        clear hc1 hc2
        rcases Int.lt_trichotomy (at8 xs k) (at8 ys k) with hl | he | hg
        · go_wp2
          go_quiet (fail)
          go_wp2
          go_ret
          exact ⟨ret_int (hag.lt hlt hlt2 hl).symm, hE.trans (ext_drewN _ _)⟩
        · have hle : at8 xs k ≤ at8 ys k := by omega
          have hge : at8 ys k ≤ at8 xs k := by omega
          have hag2 := hag.succ hlt hlt2 he
          clear he
          go_wp2
          go_quiet (fail)
          go_wp2
          go_quiet (fail)
          go_wp2
          go_roundw
          case rel => exact ⟨k + 1, by omega, by omega, by go_num, hag2, hE.trans (ext_drewN _ _)⟩
          case measure => simp [intOf]; omega
        · go_wp2
          go_quiet (fail)
          go_wp2
          go_quiet (fail)
          go_wp2
          go_ret
          exact ⟨ret_int (hag.gt hlt hlt2 hg).symm, (hE.trans (ext_drewN _ _)).trans (ext_drewN _ _)⟩
      · obtain rfl : k = ys.length := by omega
        go_wp2
        go_ret
        exact ⟨ret_int (hag.long hlt).symm, hE⟩
    · obtain rfl : k = xs.length := by omega
      by_cases hlt2 : xs.length < ys.length
      · go_wp2
        go_ret
        exact ⟨ret_int (hag.short hlt2).symm, hE⟩
      · go_wp2
        go_ret
        exact ⟨ret_int (hag.same (by omega)).symm, hE⟩
theorem eqBytes_any {A B : Option Addr} {c d : Nat} {xs ys : List UInt8} {w : World} (ha : Sl w A c xs) (hb : Sl w B d ys) :
    Calls Try.prog 18 #[.slice A xs.length c, .slice B ys.length d] w fun e w' => e = .returned (.bool (eqB xs ys)) ∧ Ext w w' := by
  have hz := Lib.hid (cmpB_zero xs ys)
  go_enter Try.func18, Try.ntmps18
  go_wp2_with (go_at_call 15; refine (compare_any ha hb).mono ?_; rintro e w1 ⟨rfl, hE⟩)
  go_ret
  exact ⟨ret_bool hz.out, hE⟩
end Go.Proofs.Ytijlaknfagpglaa
