/- A row of bytes of the call's own: read, written, cut shorter. No condition. -/
import Derived.Test.YtijlaknfagpglaaBlk
namespace Go.Proofs.Ytijlaknfagpglaa
open Go.RowKit
theorem Own.form {e : TypeId} {B : Nat} {w : World} {A : Option Addr} {c : Nat} {bs : List UInt8} (h : Own e B w A c bs) (hn : 0 < bs.length) : ∃ g, A = some ⟨g, 0, none⟩ ∧ B ≤ g := by
  obtain ⟨g, cap, hv, hb, _⟩ := World.ownsRow.form h hn
  injection hv with hA
  exact ⟨g, hA, hb⟩
theorem Own.cell {e : TypeId} {B : Nat} {w : World} {g c : Nat} {bs : List UInt8} (h : Own e B w (some ⟨g, 0, none⟩) c bs) {i : Nat} (hi : i < bs.length) : w.cell? ⟨g, i, none⟩ = some (.int .u8 (at8 bs i)) := by
  rw [World.ownsRow.cellAt h i (by omega), cells8_at hi]
theorem Own.frozen {e : TypeId} {B : Nat} {w : World} {g c : Nat} {bs : List UInt8} (h : Own e B w (some ⟨g, 0, none⟩) c bs) (i : Nat) : w.frozen? ⟨g, i, none⟩ = false := World.ownsRow.frozenAt h i
theorem Own.set_ {e : TypeId} {B : Nat} {w : World} {g c : Nat} {bs : List UInt8} (h : Own e B w (some ⟨g, 0, none⟩) c bs) (i : Nat) (b : UInt8) : Own e B (w.setCell ⟨g, i, none⟩ (.int .u8 (b.toNat : Int))) (some ⟨g, 0, none⟩) c (bs.set i b) := by
  unfold Own
  have := (World.ownsRow.stored h i (.int .u8 (b.toNat : Int))).1
  rw [List.length_set]
  simpa [cells8, List.map_set, cell8] using this
theorem Own.take {e : TypeId} {B : Nat} {w : World} {g c : Nat} {bs : List UInt8} (h : Own e B w (some ⟨g, 0, none⟩) c bs) (j : Nat) : Own e B w (some ⟨g, 0, none⟩) c (bs.take j) := by
  refine ⟨by simp [length_cells8], ?_⟩
  rcases h.2 with ⟨hv, _⟩ | ⟨g', cap, cur, hv, hb, hg, hle, hm, hs, ht⟩
  · injection hv with hv; cases hv
  · refine .inr ⟨g', cap, cur, ?_, hb, hg, Nat.le_trans (by simp; omega) hle, hm, hs, ?_⟩
    · injection hv with h1 h2 h3
      rw [h1, h3]
    · rw [Nat.mul_one] at ht ⊢
      rw [List.length_take, ← List.take_take, ht]
      simp [cells8, List.map_take]
theorem Own.ge {e : TypeId} {B : Nat} {w : World} {g c : Nat} {bs : List UInt8} (h : Own e B w (some ⟨g, 0, none⟩) c bs) : B ≤ g := (h.lt g rfl).1
end Go.Proofs.Ytijlaknfagpglaa
