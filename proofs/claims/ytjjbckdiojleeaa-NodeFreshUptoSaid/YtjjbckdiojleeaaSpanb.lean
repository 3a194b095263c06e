/- Contracts of package span's functions that make a key, and of the reference's. No condition but that each list lies in memory as a slice. -/
import Derived.Test.YtjjbckdiojleeaaSpana
namespace Go.Proofs.Ytjjbckdiojleeaa
open Go.RowKit Go.Proofs
theorem ret_slice {A : Option Addr} {n n' c : Nat} (h : n = n') : Ending.returned (.slice A n c) = .returned (.slice A n' c) := by rw [h]
theorem Rd.take {w : World} {A : Option Addr} {bs : List UInt8} (h : Rd w A bs) (k : Nat) : Rd w A (bs.take k) := fun hn => by
  have hl : (bs.take k).length ≤ bs.length := by simp; omega
  obtain ⟨b, off, hA, hc⟩ := h (by omega)
  refine ⟨b, off, hA, fun i hi => ?_⟩
  have hi2 : i < k := by simp at hi; omega
  rw [hc i (by omega)]
  unfold at8
  simp only [List.getD_eq_getElem?_getD]
  rw [List.getElem?_take, if_pos hi2]
theorem Sl.take {w : World} {A : Option Addr} {c : Nat} {bs : List UInt8} (h : Sl w A c bs) (k c' : Nat) (hc : (bs.take k).length ≤ c') (hm : c' ≤ 9223372036854775807) : Sl w A c' (bs.take k) :=
  ⟨h.rd.take k, by have := h.len; simp; omega, hc, hm⟩
theorem fresh0_any {A : Option Addr} {c n : Nat} {bs : List UInt8} {w : World} (h : Sl w A c bs) (hn : n = bs.length) :
    Calls Try.prog 79 #[.slice A n c, .int .i64 0] w fun e w' => ∃ g, e = .returned (.slice (some ⟨g, 0, none⟩) bs.length bs.length) ∧ w.heap.size ≤ g ∧ Blk 5 w' g bs ∧ Ext w w' := by
  simpa using fresh_any (room := 0) h hn (by omega)
theorem fresh1_any {A : Option Addr} {c n : Nat} {bs : List UInt8} {w : World} (h : Sl w A c bs) (hn : n = bs.length) :
    Calls Try.prog 79 #[.slice A n c, .int .i64 1] w fun e w' => ∃ g, e = .returned (.slice (some ⟨g, 0, none⟩) bs.length (bs.length + 1)) ∧ w.heap.size ≤ g ∧ Blk 5 w' g (bs ++ [0]) ∧ Ext w w' := by
  simpa using fresh_any (room := 1) h hn (by omega)
theorem Blk.whole {e : TypeId} {w : World} {g : Nat} {l : List UInt8} (h : Blk e w g l) {B : Nat} (hB : B ≤ g) (hm : l.length ≤ 9223372036854775807) : Own e B w (some ⟨g, 0, none⟩) l.length l := h.own hB (by simp) (Nat.le_refl _) hm
theorem own_append1 {e : TypeId} {w0 w : World} {v : Value} {n : Nat} {bs : List UInt8} {b : UInt8} (h : w.ownsRow w0.heap.size e 1 v n (cells8 bs ++ [.int .u8 (b.toNat : Int)])) (hn : n = bs.length + 1) : ∃ A c, v = .slice A (bs ++ [b]).length c ∧ Own e w0.heap.size w A c (bs ++ [b]) := by
  subst hn
  obtain ⟨A, c, rfl⟩ := slice_of_own h
  refine ⟨A, c, by simp, ?_⟩
  unfold Own
  rw [cells8_append, List.length_append]
  exact h
theorem Own.len_le {e : TypeId} {B : Nat} {w : World} {A : Option Addr} {c : Nat} {bs : List UInt8} (h : Own e B w A c bs) (hl : bs.length ≤ 140737488355328) : Sl w A c bs := h.sl hl
set_option maxHeartbeats 400000 in
theorem common_any {A B : Option Addr} {c d n m : Nat} {xs ys : List UInt8} {w : World} (ha : Sl w A c xs) (hb : Sl w B d ys) (hn : n = xs.length) (hm : m = ys.length) :
    Calls Try.prog 78 #[.slice A n c, .slice B m d] w fun e w' => e = .returned (.int .i64 (comB xs ys : Int)) ∧ Ext w w' := by
  subst hn
  subst hm
  have hla := ha.len
  have hlb := hb.len
  rcases Nat.lt_trichotomy xs.length ys.length with hsh | hsh | hsh <;>
  · go_enter Try.func78, Try.ntmps78
    go_wp2
    go_loopw [13] (fun i wr => ∃ k : Nat, k ≤ xs.length ∧ k ≤ ys.length ∧ i = .int .i64 k ∧ Agree xs ys k ∧ Ext w wr) (fun i _ => xs.length - (intOf i).toNat)
    case atStart => exact ⟨0, Nat.zero_le _, Nat.zero_le _, rfl, Agree.zero _ _, Below.refl _ _⟩
    case round =>
      obtain ⟨k, hka, hkb, rfl, hag, hE⟩ := hrel
      by_cases hlt : k < xs.length ∧ k < ys.length
      · obtain ⟨hlt, hlt2⟩ := hlt
        obtain ⟨b1, o1, rfl, hc1⟩ := (ha.rd.ext hE) (by omega)
        obtain ⟨b2, o2, rfl, hc2⟩ := (hb.rd.ext hE) (by omega)
        have hd1 := hc1 k hlt
        have hd2 := hc2 k hlt2
        clear hc1 hc2
        by_cases he : at8 xs k = at8 ys k
        · have hag2 := hag.succ hlt hlt2 he
          rw [← he] at hd2
          clear he
          go_wp2
          go_quiet (fail)
          go_wp2
          go_roundw
          case rel => exact ⟨k + 1, by omega, by omega, by go_num, hag2, hE.trans (ext_drewN _ _)⟩
          case measure => simp [intOf]; omega
        · have hne : (at8 xs k == at8 ys k) = false := by simpa using he
          have hcm := Lib.hid (hag.com_ne hlt hlt2 he)
          clear he
          go_wp2
          go_quiet (fail)
          go_wp2
          go_ret
          exact ⟨ret_int (by rw [hcm.out]), hE.trans (ext_drewN _ _)⟩
      · have hke : k = xs.length ∨ k = ys.length := by omega
        have hcm := Lib.hid (hag.com_end hka hke)
        clear hke
        have hnk : ¬ (k < xs.length ∧ k < ys.length) := hlt
        go_wp2
        go_ret
        exact ⟨ret_int (by rw [hcm.out]; omega), hE⟩
end Go.Proofs.Ytjjbckdiojleeaa
