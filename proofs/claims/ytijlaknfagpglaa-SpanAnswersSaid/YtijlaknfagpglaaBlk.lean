/- A block of bytes that is known whole: made, filled, copied into, read, owned. No condition. -/
import Derived.Test.YtijlaknfagpglaaLists
import Derived.OwnWalk
import Derived.Laws.CopyOwn
namespace Go.Proofs.Ytijlaknfagpglaa
open Go.RowKit
/-- 'make([]T, n, m)' at sizes that are variables. -/
theorem wpList_make_any {P : Program} (w : World) {ops : Array Oper} {rest : List Oper} {o : Oper} {a : Act} {Q : Exit → Act → World → Prop}
    (hg : o.guard = none) (l c : Operand) (t : TypeId) (hop : o.op = Op.makeSlice t l c)
    (e : TypeId) (i : TypeInfo) (z : Value) (size : Nat) (h1 : P.underlying t = some (.slice e)) (h2 : P.info? e = some i) (h3 : i.zero = some z) (h4 : i.size = size)
    (kl kc : IntKind) (L C : Int) (n m : Nat) (hl : a.eval l = .int kl L) (hc : a.eval c = .int kc C) (hL : L = (n : Int)) (hC : C = (m : Int)) (hnm : n ≤ m) (b2 : i.bytes * m ≤ 281474976710656) (b3 : m ≤ 9223372036854775807)
    (hK : ∀ w', w'.heap[w.heap.size]? = some (.cells (madeCells z.cells (m * size)) e (0, 0)) → w.grownBy w' none → wpList P ops Q rest (a.put o.dst (.slice (some ⟨w.heap.size, 0, none⟩) n m)) w') :
    wpList P ops Q (o :: rest) a w := by
  refine wpList_plain hg fun K hK' => ?_
  subst hL
  subst hC
  subst h4
  have hb : (i.bytes : Int) * (m : Int) ≤ 281474976710656 := by
    have h : ((i.bytes * m : Nat) : Int) ≤ 281474976710656 := by omega
    rwa [Int.natCast_mul] at h
  have hrun := run_make (P := P) w t e i z h1 h2 h3 kl kc n m (by omega) (by omega) hb (by omega)
  simp only [Int.toNat_natCast] at hrun
  unfold Oper.wp
  simp [execOp, hop, hl, hc, hrun, Result.andThen]
  exact hK' _ _ (hK _ (heap_alloc_new w _) ⟨rfl, rfl, rfl, by simp, fun k hk _ => Below.heap_alloc _ _ _ hk⟩)
/-- Block g is just these bytes. -/
def Blk (e : TypeId) (w : World) (g : Nat) (l : List UInt8) : Prop := w.heap[g]? = some (.cells (cells8 l).toArray e (0, 0))
section
variable {e : TypeId} {w w' : World} {g : Nat} {l : List UInt8}
theorem Blk.lt (h : Blk e w g l) : g < w.heap.size := (Array.getElem?_eq_some_iff.1 h).1
theorem Blk.cell (h : Blk e w g l) {i : Nat} (hi : i < l.length) : w.cell? ⟨g, i, none⟩ = some (.int .u8 (at8 l i)) := by
  rw [cell_of_row w g i _ e (0, 0) h]
  have := cells8_at hi
  simpa using this
theorem Blk.frozen (h : Blk e w g l) (i : Nat) : w.frozen? ⟨g, i, none⟩ = false := frozen_of_row w g i _ e h
theorem Blk.ext (h : Blk e w g l) (hE : Ext w w') : Blk e w' g l := hE.blk h
theorem Blk.drew (h : Blk e w g l) : Blk e w.drew g l := h
theorem Blk.other (h : Blk e w g l) {g' : Nat} (hg : w.grownBy w' (some g')) (hne : g ≠ g') : Blk e w' g l := blk_other h hg hne
theorem Blk.set_ (h : Blk e w g l) (i : Nat) (b : UInt8) : Blk e (w.setCell ⟨g, i, none⟩ (.int .u8 (b.toNat : Int))) g (l.set i b) := by
  unfold Blk at h ⊢
  rw [heap_setCell_same w g i _ e _ h]
  congr 2
  simp [cells8, List.map_set, cell8]
theorem Blk.made {m : Nat} (h : w.heap[g]? = some (.cells (madeCells (Value.int .u8 0).cells (m * 1)) e (0, 0))) : Blk e w g (List.replicate m 0) := by
  unfold Blk
  rw [h]
  congr 2
  have := toList_madeCells_one (Value.int .u8 0) m
  rw [Nat.mul_one]
  apply Array.ext'
  rw [show (Value.int .u8 0).cells = #[Value.int .u8 0] from rfl, this]
  simp [cells8, cell8]
theorem Blk.own (h : Blk e w g l) {B : Nat} (hB : B ≤ g) {bs : List UInt8} (hbs : l.take bs.length = bs) (hl : bs.length ≤ l.length) (hm : l.length ≤ 9223372036854775807) : Own e B w (some ⟨g, 0, none⟩) l.length bs := by
  refine ⟨by simp [length_cells8], .inr ⟨g, l.length, (cells8 l).toArray, rfl, hB, h, hl, by simpa [maxLen] using hm, by simp [length_cells8], ?_⟩⟩
  rw [Nat.mul_one, List.toList_toArray]
  unfold cells8
  rw [← List.map_take, hbs]
theorem Blk.sl (h : Blk e w g l) {bs : List UInt8} (hbs : l.take bs.length = bs) (hl : bs.length ≤ l.length) (hm : bs.length ≤ 140737488355328) (hm2 : l.length ≤ 9223372036854775807) : Sl w (some ⟨g, 0, none⟩) l.length bs :=
  (h.own (Nat.zero_le g) hbs hl hm2).sl hm
end
/-- A store into a block of the call's own: the world has only grown since w0. -/
theorem ext_store {w0 w : World} (h : Ext w0 w) {p : Addr} (hp : w0.heap.size ≤ p.block) (v : Value) : Ext w0 (w.setCell p v) := Below.setCell h hp v
/-- A list that is filled from its head: 'full' as far as k, zeros behind. -/
def filled (full : List UInt8) (k : Nat) : List UInt8 := full.take k ++ List.replicate (full.length - k) 0
theorem length_filled (full : List UInt8) {k : Nat} (h : k ≤ full.length) : (filled full k).length = full.length := by simp [filled]; omega
theorem filled_zero (full : List UInt8) : filled full 0 = List.replicate full.length 0 := by simp [filled]
theorem filled_all (full : List UInt8) : filled full full.length = full := by simp [filled]
theorem filled_set {full : List UInt8} {k : Nat} (h : k < full.length) : (filled full k).set k full[k] = filled full (k + 1) := by
  unfold filled
  have e : full.length - k = (full.length - (k + 1)) + 1 := by omega
  rw [e, List.replicate_succ, List.set_append_right _ _ (by simp; omega), List.take_succ_eq_append_getElem h]
  rw [show k - (full.take k).length = 0 by simp; omega, List.set_cons_zero, List.append_assoc]
  rfl
/-- An integer as a byte. -/
def b8 (x : Int) : UInt8 := UInt8.ofNat (x % 256).toNat
theorem b8_toNat (x : Int) : ((b8 x).toNat : Int) = x % 256 := by
  unfold b8
  rw [UInt8.toNat_ofNat']
  omega
theorem b8_at (bs : List UInt8) {i : Nat} (h : i < bs.length) : b8 (at8 bs i) = bs[i] := by
  apply UInt8.toNat_inj.1
  have h1 := b8_toNat (at8 bs i)
  have h2 : at8 bs i = (bs[i].toNat : Int) := by simp [at8, h]
  have h3 := bs[i].toNat_lt
  omega
end Go.Proofs.Ytijlaknfagpglaa
