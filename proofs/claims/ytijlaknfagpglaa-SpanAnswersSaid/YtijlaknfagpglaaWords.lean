/- Words for memory: a slice of bytes that reads as a list, what stays of it when the world has only grown. No condition. -/
import Derived.WalkKit
import Derived.ProofKit
import Derived.Below
import Derived.Laws.OwnMore
import Derived.Deep.AppendLies
import Derived.Maps.AppendAt
import Derived.Lib.Hide
import Derived.Laws.Tables
import Derived.Laws.ResultCell
import Derived.Test.YtijlaknfagpglaaMild
namespace Go.Proofs.Ytijlaknfagpglaa
open Go.RowKit
theorem Ext.cell {w w' : World} (h : Ext w w') {p : Addr} {v : Value} (hp : w.cell? p = some v) : w'.cell? p = some v :=
  (Below.cell h (World.block_lt_of_cell? w p hp)).trans hp
theorem Ext.blk {w w' : World} (h : Ext w w') {g : Nat} {o : Obj} (hp : w.heap[g]? = some o) : w'.heap[g]? = some o :=
  (Below.block h g (Array.getElem?_eq_some_iff.1 hp).1).trans hp
theorem Ext.trans {a b c : World} (h : Ext a b) (k : Ext b c) : Ext a c := Below.trans h (k.mono h.size)
theorem ext_drew (w : World) : Ext w w.drew := (Below.refl _ _).drew
theorem ext_alloc (w : World) (o : Obj) : Ext w (w.alloc o) := (Below.refl _ _).alloc (Nat.le_refl _) _
/-- Byte number i of a list, as an integer; behind its end 0. -/
def at8 (bs : List UInt8) (i : Nat) : Int := ((bs.getD i 0).toNat : Int)
theorem at8_bd (bs : List UInt8) (i : Nat) : 0 ≤ at8 bs i ∧ at8 bs i ≤ 255 := by
  unfold at8
  have := (bs.getD i 0).toNat_lt
  omega
theorem at8_eq {bs cs : List UInt8} {i j : Nat} (hi : i < bs.length) (hj : j < cs.length) : at8 bs i = at8 cs j ↔ bs[i] = cs[j] := by
  unfold at8
  simp only [List.getD_eq_getElem?_getD, List.getElem?_eq_getElem hi, List.getElem?_eq_getElem hj, Option.getD_some]
  rw [← UInt8.toNat_inj]
  omega
theorem at8_lt {bs cs : List UInt8} {i j : Nat} (hi : i < bs.length) (hj : j < cs.length) : at8 bs i < at8 cs j ↔ bs[i] < cs[j] := by
  unfold at8
  simp only [List.getD_eq_getElem?_getD, List.getElem?_eq_getElem hi, List.getElem?_eq_getElem hj, Option.getD_some]
  rw [UInt8.lt_iff_toNat_lt]
  omega
def cell8 (b : UInt8) : Value := .int .u8 (b.toNat : Int)
def cells8 (bs : List UInt8) : List Value := bs.map cell8
theorem length_cells8 (bs : List UInt8) : (cells8 bs).length = bs.length := by simp [cells8]
theorem cells8_at {bs : List UInt8} {i : Nat} (h : i < bs.length) : (cells8 bs)[i]? = some (.int .u8 (at8 bs i)) := by
  simp [cells8, cell8, at8, h]
theorem cells8_append (bs cs : List UInt8) : cells8 (bs ++ cs) = cells8 bs ++ cells8 cs := by simp [cells8]
theorem cells8_one (bs : List UInt8) : ∀ u ∈ cells8 bs, u.oneCell' = true := by
  intro u hu
  obtain ⟨b, _, rfl⟩ := List.mem_map.1 hu
  rfl
theorem take_at8 {bs : List UInt8} {k : Nat} (h : k < bs.length) : cells8 (bs.take (k + 1)) = cells8 (bs.take k) ++ [.int .u8 (at8 bs k)] := by
  rw [List.take_succ_eq_append_getElem h, cells8_append]
  simp [cells8, cell8, at8, h]
/-- The bytes bs lie behind the address A. -/
def Rd (w : World) (A : Option Addr) (bs : List UInt8) : Prop :=
  0 < bs.length → ∃ b off, A = some ⟨b, off, none⟩ ∧ ∀ i, i < bs.length → w.cell? ⟨b, off + i, none⟩ = some (.int .u8 (at8 bs i))
theorem Rd.ext {w w' : World} {A : Option Addr} {bs : List UInt8} (h : Rd w A bs) (he : Ext w w') : Rd w' A bs := fun hn => by
  obtain ⟨b, off, hA, hc⟩ := h hn
  exact ⟨b, off, hA, fun i hi => he.cell (hc i hi)⟩
theorem Rd.nil (w : World) (A : Option Addr) : Rd w A [] := fun h => absurd h (by simp)
/-- A slice of bytes: address, capacity; its length is the list's. -/
structure Sl (w : World) (A : Option Addr) (c : Nat) (bs : List UInt8) : Prop where
  rd : Rd w A bs
  len : bs.length ≤ 140737488355328
  le : bs.length ≤ c
  cap : c ≤ 9223372036854775807
theorem Sl.ext {w w' : World} {A : Option Addr} {c : Nat} {bs : List UInt8} (h : Sl w A c bs) (he : Ext w w') : Sl w' A c bs := ⟨h.rd.ext he, h.len, h.le, h.cap⟩
/-- A slice of bytes of the call's own, in a block from B on. -/
def Own (e : TypeId) (B : Nat) (w : World) (A : Option Addr) (c : Nat) (bs : List UInt8) : Prop := w.ownsRow B e 1 (.slice A bs.length c) bs.length (cells8 bs)
theorem Own.sl {e : TypeId} {B : Nat} {w : World} {A : Option Addr} {c : Nat} {bs : List UInt8} (h : Own e B w A c bs) (hl : bs.length ≤ 140737488355328) : Sl w A c bs := by
  refine ⟨fun hn => ?_, hl, ?_, ?_⟩
  · obtain ⟨g, cap, hv, _, _⟩ := World.ownsRow.form h hn
    injection hv with hA
    subst hA
    refine ⟨g, 0, rfl, fun i hi => ?_⟩
    have := h.cells (g := g) rfl i _ (cells8_at hi)
    rwa [show (⟨g, 0, none⟩ : Addr).add i = ⟨g, 0 + i, none⟩ by unfold Addr.add; split <;> simp_all] at this
  · rcases h.2 with ⟨hv, h0⟩ | ⟨g, cap, cur, hv, _, _, hle, _⟩
    · omega
    · injection hv with _ _ hc
      subst hc
      exact hle
  · rcases h.2 with ⟨hv, h0⟩ | ⟨g, cap, cur, hv, _, _, _, hm, _⟩
    · injection hv with _ _ hc
      omega
    · injection hv with _ _ hc
      subst hc
      simpa [maxLen] using hm
theorem Own.ext {e : TypeId} {B : Nat} {w w' : World} {A : Option Addr} {c : Nat} {bs : List UInt8} (h : Own e B w A c bs) (he : Ext w w') : Own e B w' A c bs := by
  refine ⟨h.1, ?_⟩
  rcases h.2 with h0 | ⟨g, cap, cur, hv, hb, hg, r⟩
  · exact .inl h0
  · exact .inr ⟨g, cap, cur, hv, hb, he.blk hg, r⟩
theorem Own.mono {e : TypeId} {B B' : Nat} {w : World} {A : Option Addr} {c : Nat} {bs : List UInt8} (h : Own e B w A c bs) (hB : B' ≤ B) : Own e B' w A c bs := by
  refine ⟨h.1, ?_⟩
  rcases h.2 with h0 | ⟨g, cap, cur, hv, hb, r⟩
  · exact .inl h0
  · exact .inr ⟨g, cap, cur, hv, Nat.le_trans hB hb, r⟩
/-- Two values do not own one block. -/
def NoShare (v u : Value) : Prop := ∀ g, v.ownBlock = some g → u.ownBlock ≠ some g
theorem NoShare.symm {v u : Value} (h : NoShare v u) : NoShare u v := fun g hu hv => h g hv hu
/-- A value is a slice of the call's own of just these bytes. -/
def SOwn (e : TypeId) (lo : Nat) (bs : List UInt8) (v : Value) (w : World) : Prop := ∃ A c, v = .slice A bs.length c ∧ Own e lo w A c bs
theorem SOwn.stable (e : TypeId) (lo : Nat) (bs : List UInt8) (v : Value) : Stable (SOwn e lo bs v) := fun _ _ ⟨A, c, hv, ho⟩ hb => ⟨A, c, hv, ho.ext hb⟩
theorem Stable.and {S T : World → Prop} (h : Stable S) (k : Stable T) : Stable fun w => S w ∧ T w := fun w w' ⟨a, b⟩ hb => ⟨h w w' a hb, k w w' b hb⟩
theorem Stable.pure {p : Prop} : Stable fun _ => p := fun _ _ h _ => h
/-- What is owned in a world lies below its end; what is made later lies beyond. -/
theorem noShare_of {B : Nat} {e e' : TypeId} {size size' n n' lo : Nat} {w w' : World} {v u : Value} {xs ys : List Value} (h : w.ownsRow lo e size v n xs) (hB : w.heap.size ≤ B) (k : w'.ownsRow B e' size' u n' ys) : NoShare v u := fun g hv hu => by
  have h1 := h.lt g hv
  have h2 := k.lt g hu
  omega
theorem SOwn.noShare {e e' : TypeId} {lo B : Nat} {bs cs : List UInt8} {v : Value} {w w' : World} {A : Option Addr} {c : Nat} (h : SOwn e lo bs v w) (hB : w.heap.size ≤ B) (k : Own e' B w' A c cs) : NoShare v (.slice A cs.length c) := by
  obtain ⟨A', c', rfl, ho⟩ := h
  exact noShare_of ho hB k
theorem SOwn.own {e : TypeId} {lo : Nat} {bs : List UInt8} {w : World} {A : Option Addr} {n c : Nat} (h : SOwn e lo bs (.slice A n c) w) : Own e lo w A c bs := by
  obtain ⟨A', c', hv, ho⟩ := h
  injection hv with h1 _ h2
  rw [h1, h2]
  exact ho
/-- One element more: the row of cells that a loop has gathered. -/
theorem slice_of_own {B : Nat} {e : TypeId} {size : Nat} {w : World} {v : Value} {n : Nat} {xs : List Value} (h : w.ownsRow B e size v n xs) : ∃ A c, v = .slice A n c := by
  rcases h.2 with ⟨hv, h0⟩ | ⟨g, cap, cur, hv, _⟩
  · subst h0; exact ⟨none, 0, hv⟩
  · exact ⟨_, _, hv⟩
/-- Behind an append onto a row of the call's own. -/
theorem ext_append {w wr w2 : World} {o : Obj} {e : TypeId} {size n : Nat} {v : Value} {xs : List Value} (hE : Ext w wr) (hown : wr.ownsRow w.heap.size e size v n xs) (hg : (wr.alloc o).grownBy w2 v.ownBlock) : Ext w w2 :=
  (Below.alloc hE hE.size o).grown hg (by have := hE.size; simp; omega) (fun j hj => ((hown.alloc o).lt j hj).1)
theorem ext_make {w w2 : World} (hg : w.grownBy w2 none) : Ext w w2 := (Below.refl _ _).grown hg (Nat.le_refl _) (by simp)
/-- A whole value stored into a box: of the world behind it only what is asked is kept. -/
theorem wpList_store_box {P : Program} {ops : Array Oper} {rest : List Oper} {o : Oper} {a : Act} {w : World} {Q : Exit → Act → World → Prop} (hgd : o.guard = none) (ty : TypeId) (x y : Operand) (ho : o.op = .store ty x y)
    (g : Nat) (cells : Array Value) (hx : a.eval x = .pointer (some ⟨g, 0, none⟩)) (hy : a.eval y = .agg cells)
    (t : TypeId) (old : Array Value) (hg : w.heap[g]? = some (.cells old t (0, 0))) (hi : (P.info? ty).map (·.size) = some cells.size)
    (hold : old.size = cells.size) (h1 : cells.all (·.oneCell') = true)
    (h : ∀ w', w'.heap[g]? = some (.cells cells t (0, 0)) → w.grownBy w' (some g) → wpList P ops Q rest (a.put o.dst undef) w') : wpList P ops Q (o :: rest) a w :=
  wpList_store_row hgd ty x y ho g cells hx hy t old hg hi hold h1 (h _ (setRow_heap w g old cells t (0, 0) hg)
    ⟨rfl, rfl, rfl, by simp, fun k _ hk => setRow_other w g k cells (fun e => hk (by rw [e]))⟩)
theorem ext_only {w0 w w' : World} {g : Nat} (h : Ext w0 w) (hg : w.grownBy w' (some g)) (hb : w0.heap.size ≤ g) : Ext w0 w' :=
  Below.grown h hg h.size (fun k hk => by injection hk with hk; omega)
theorem Own.only {e : TypeId} {B g : Nat} {w w' : World} {A : Option Addr} {c : Nat} {bs : List UInt8} (h : Own e B w A c bs) (hg : w.grownBy w' (some g)) (hb : g < B) : Own e B w' A c bs :=
  World.ownsRow.kept h hg (by
    cases hv : (Value.slice A bs.length c).ownBlock with
    | none => exact .inl rfl
    | some k =>
      refine .inr fun e => ?_
      injection e with e
      have := (h.lt k hv).1
      omega)
theorem blk_other {w w' : World} {g k : Nat} {o : Obj} (h : w.heap[k]? = some o) (hg : w.grownBy w' (some g)) (hne : k ≠ g) : w'.heap[k]? = some o :=
  (hg.block k (Array.getElem?_eq_some_iff.1 h).1 (fun e => hne (by injection e))).trans h
end Go.Proofs.Ytijlaknfagpglaa
