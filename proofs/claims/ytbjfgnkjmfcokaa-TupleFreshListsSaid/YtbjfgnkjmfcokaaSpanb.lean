/- Contracts of package span's functions that make a key, and of the reference's. No condition but that each list lies in memory as a slice. -/
import Derived.Test.YtbjfgnkjmfcokaaSpana
namespace Go.Proofs.Ytbjfgnkjmfcokaa
open Go.RowKit Go.Proofs
theorem ret_slice {A : Option Addr} {n n' c : Nat} (h : n = n') : Ending.returned (.slice A n c) = .returned (.slice A n' c) := by rw [h]
theorem Rd.take {w : World} {A : Option Addr} {bs : List UInt8} (h : Rd w A bs) (k : Nat) : Rd w A (bs.take k) := fun hn => by
  have hl : (bs.take k).length ≤ bs.length := by simp; omega
  obtain ⟨b, off, hA, hc⟩ := h (by omega)
  refine ⟨b, off, hA, fun i hi => ?_⟩
  have hi2 : i < k := by simp at hi; omega
  rw [hc i (by omega)]
  unfold at8
  simp only [List.getD_eq_getElem?_getD]
  rw [List.getElem?_take, if_pos hi2]
theorem Sl.take {w : World} {A : Option Addr} {c : Nat} {bs : List UInt8} (h : Sl w A c bs) (k c' : Nat) (hc : (bs.take k).length ≤ c') (hm : c' ≤ 9223372036854775807) : Sl w A c' (bs.take k) :=
  ⟨h.rd.take k, by have := h.len; simp; omega, hc, hm⟩
theorem Blk.whole {e : TypeId} {w : World} {g : Nat} {l : List UInt8} (h : Blk e w g l) {B : Nat} (hB : B ≤ g) (hm : l.length ≤ 9223372036854775807) : Own e B w (some ⟨g, 0, none⟩) l.length l := h.own hB (by simp) (Nat.le_refl _) hm
theorem own_append1 {e : TypeId} {w0 w : World} {v : Value} {n : Nat} {bs : List UInt8} {b : UInt8} (h : w.ownsRow w0.heap.size e 1 v n (cells8 bs ++ [.int .u8 (b.toNat : Int)])) (hn : n = bs.length + 1) : ∃ A c, v = .slice A (bs ++ [b]).length c ∧ Own e w0.heap.size w A c (bs ++ [b]) := by
  subst hn
  obtain ⟨A, c, rfl⟩ := slice_of_own h
  refine ⟨A, c, by simp, ?_⟩
  unfold Own
  rw [cells8_append, List.length_append]
  exact h
theorem Own.len_le {e : TypeId} {B : Nat} {w : World} {A : Option Addr} {c : Nat} {bs : List UInt8} (h : Own e B w A c bs) (hl : bs.length ≤ 140737488355328) : Sl w A c bs := h.sl hl
end Go.Proofs.Ytbjfgnkjmfcokaa
