/- Layer 3: lists of values in memory. No condition. -/
import Derived.Test.YtbjfgnkjmfcokaaTcmp
import Derived.Test.YtbjfgnkjmfcokaaOwnb
import Derived.Deep.MidRow
namespace Go.Proofs.Ytbjfgnkjmfcokaa
open Go.RowKit Go.Proofs
set_option linter.unusedVariables false
theorem flat_len {α : Type} (f : α → List Value) (n : Nat) (hf : ∀ x, (f x).length = n) (l : List α) : (l.flatMap f).length = l.length * n := by
  induction l with
  | nil => simp
  | cons x l ih => simp [ih, hf]; rw [Nat.add_mul]; omega
theorem flat_at {α : Type} (f : α → List Value) (n : Nat) (hf : ∀ x, (f x).length = n) : ∀ (l : List α) (i j : Nat) (x : α), l[i]? = some x → j < n → (l.flatMap f)[i * n + j]? = (f x)[j]?
  | [], i, _, _, h, _ => by simp at h
  | y :: l, 0, j, x, h, hj => by
    simp only [List.getElem?_cons_zero, Option.some.injEq] at h
    subst h
    rw [List.flatMap_cons, List.getElem?_append_left (by rw [hf]; omega), Nat.zero_mul, Nat.zero_add]
  | y :: l, i + 1, j, x, h, hj => by
    simp only [List.getElem?_cons_succ] at h
    rw [List.flatMap_cons, List.getElem?_append_right (by rw [hf, Nat.add_mul]; omega), hf, ← flat_at f n hf l i j x h hj]
    congr 1
    rw [Nat.add_mul]
    omega
theorem len_dc (v : Vl) : v.dc.length = 7 := rfl
theorem len_pc (v : Vl) : v.pc.length = 6 := rfl
theorem one_pc (l : List Vl) : ∀ u ∈ l.flatMap Vl.pc, u.oneCell' = true := by
  intro u hu
  obtain ⟨v, _, hv⟩ := List.mem_flatMap.1 hu
  simp [Vl.pc] at hv
  rcases hv with rfl | rfl | rfl | rfl | rfl | rfl <;> rfl
theorem one_dc (l : List Vl) : ∀ u ∈ l.flatMap Vl.dc, u.oneCell' = true := by
  intro u hu
  obtain ⟨v, _, hv⟩ := List.mem_flatMap.1 hu
  simp [Vl.dc] at hv
  rcases hv with rfl | rfl | rfl | rfl | rfl | rfl | rfl <;> rfl
/-- A slice of values: f tells a value's cells. -/
structure VL (f : Vl → List Value) (n : Nat) (w : World) (A : Option Addr) (c : Nat) (l : List Vl) : Prop where
  rd : 0 < l.length → ∃ b off, A = some ⟨b, off, none⟩ ∧ ∀ i v j u, l[i]? = some v → (f v)[j]? = some u → w.cell? ⟨b, off + i * n + j, none⟩ = some u
  len : l.length ≤ 2199023255552
  le : l.length ≤ c
  cap : c ≤ 9223372036854775807
  ok : ∀ v ∈ l, v.Ok
abbrev DL := VL Vl.dc 7
abbrev PL := VL Vl.pc 6
section
variable {f : Vl → List Value} {n : Nat} {w w' : World} {A : Option Addr} {c : Nat} {l : List Vl}
theorem VL.ext (h : VL f n w A c l) (he : Ext w w') : VL f n w' A c l :=
  ⟨fun hn => by obtain ⟨b, off, hA, hc⟩ := h.rd hn; exact ⟨b, off, hA, fun i v j u hv hu => he.cell (hc i v j u hv hu)⟩, h.len, h.le, h.cap, h.ok⟩
theorem VL.nil (w : World) (A : Option Addr) {c : Nat} (hc : c ≤ 9223372036854775807) : VL f n w A c [] := ⟨fun h => absurd h (by simp), by simp, Nat.zero_le _, hc, by simp⟩
theorem VL.take (h : VL f n w A c l) (k c' : Nat) (hc : (l.take k).length ≤ c') (hm : c' ≤ 9223372036854775807) : VL f n w A c' (l.take k) := by
  refine ⟨fun hn => ?_, by have := h.len; simp; omega, hc, hm, fun v hv => h.ok v (List.mem_of_mem_take hv)⟩
  have hl : (l.take k).length ≤ l.length := by simp; omega
  obtain ⟨b, off, hA, hcc⟩ := h.rd (by omega)
  refine ⟨b, off, hA, fun i v j u hv hu => hcc i v j u ?_ hu⟩
  rw [List.getElem?_take] at hv
  split at hv
  · exact hv
  · cases hv
end
theorem VL.dAt {w : World} {A : Option Addr} {c : Nat} {l : List Vl} (h : DL w A c l) {k : Nat} {v : Vl} (hv : l[k]? = some v) : ∃ b off, A = some ⟨b, off, none⟩ ∧
    ∀ w', Ext w w' → w'.cell? ⟨b, off + k * 7, none⟩ = some (.int .i64 v.kind) ∧ w'.cell? ⟨b, off + k * 7 + 1, none⟩ = some (.bool v.bool) ∧ w'.cell? ⟨b, off + k * 7 + 2, none⟩ = some (.int .i64 v.int) ∧
      w'.cell? ⟨b, off + k * 7 + 3, none⟩ = some (.int .u64 v.real) ∧ w'.cell? ⟨b, off + k * 7 + 4, none⟩ = some (.int .u64 v.re) ∧ w'.cell? ⟨b, off + k * 7 + 5, none⟩ = some (.int .u64 v.im) ∧ w'.cell? ⟨b, off + k * 7 + 6, none⟩ = some (str v.text) := by
  have hk := (List.getElem?_eq_some_iff.1 hv).1
  obtain ⟨b, off, hA, hc⟩ := h.rd (by omega)
  refine ⟨b, off, hA, fun w' he => ⟨?_, ?_, ?_, ?_, ?_, ?_, ?_⟩⟩
  · exact he.cell (hc k v 0 _ hv rfl)
  · exact he.cell (hc k v 1 _ hv rfl)
  · exact he.cell (hc k v 2 _ hv rfl)
  · exact he.cell (hc k v 3 _ hv rfl)
  · exact he.cell (hc k v 4 _ hv rfl)
  · exact he.cell (hc k v 5 _ hv rfl)
  · exact he.cell (hc k v 6 _ hv rfl)
theorem VL.pAt {w : World} {A : Option Addr} {c : Nat} {l : List Vl} (h : PL w A c l) {k : Nat} {v : Vl} (hv : l[k]? = some v) : ∃ b off, A = some ⟨b, off, none⟩ ∧
    ∀ w', Ext w w' → w'.cell? ⟨b, off + k * 6, none⟩ = some (.int .i64 v.kind) ∧ w'.cell? ⟨b, off + k * 6 + 1, none⟩ = some (.bool v.bool) ∧ w'.cell? ⟨b, off + k * 6 + 2, none⟩ = some (.int .i64 v.int) ∧
      w'.cell? ⟨b, off + k * 6 + 3, none⟩ = some (.float .f64 v.real) ∧ w'.cell? ⟨b, off + k * 6 + 4, none⟩ = some (.complex .f64 v.re v.im) ∧ w'.cell? ⟨b, off + k * 6 + 5, none⟩ = some (str v.text) := by
  have hk := (List.getElem?_eq_some_iff.1 hv).1
  obtain ⟨b, off, hA, hc⟩ := h.rd (by omega)
  refine ⟨b, off, hA, fun w' he => ⟨?_, ?_, ?_, ?_, ?_, ?_⟩⟩
  · exact he.cell (hc k v 0 _ hv rfl)
  · exact he.cell (hc k v 1 _ hv rfl)
  · exact he.cell (hc k v 2 _ hv rfl)
  · exact he.cell (hc k v 3 _ hv rfl)
  · exact he.cell (hc k v 4 _ hv rfl)
  · exact he.cell (hc k v 5 _ hv rfl)
/-! ### A block of values of the program's -/
def VBlk (w : World) (g : Nat) (l : List Vl) : Prop := w.heap[g]? = some (.cells (l.flatMap Vl.pc).toArray 56 (0, 0))
theorem VBlk.pl {w : World} {g : Nat} {l m : List Vl} (h : VBlk w g l) (hm : l.take m.length = m) (hl : l.length ≤ 2199023255552) (hok : ∀ v ∈ m, v.Ok) : PL w (some ⟨g, 0, none⟩) l.length m := by
  have hle : m.length ≤ l.length := by
    have := congrArg List.length hm
    simp at this
    omega
  refine ⟨fun hn => ⟨g, 0, rfl, fun i v j u hv hu => ?_⟩, by omega, hle, by omega, hok⟩
  have hj : j < 6 := (List.getElem?_eq_some_iff.1 hu).1
  have hv2 : l[i]? = some v := by
    have hi := (List.getElem?_eq_some_iff.1 hv).1
    rw [← hm, List.getElem?_take, if_pos hi] at hv
    exact hv
  rw [cell_of_row w g _ _ _ _ h, Nat.zero_add]
  simp only [List.getElem?_toArray]
  rw [flat_at Vl.pc 6 len_pc l i j v hv2 hj, hu]
theorem VBlk.ext {w w' : World} {g : Nat} {l : List Vl} (h : VBlk w g l) (he : Ext w w') : VBlk w' g l := he.blk h
theorem VBlk.made {w : World} {g m : Nat} (h : w.heap[g]? = some (.cells (madeCells (Value.agg #[.int .i64 0, .bool false, .int .i64 0, .float .f64 0, .complex .f64 0 0, str []]).cells (m * 6)) 56 (0, 0))) : VBlk w g (List.replicate m Vl.zero) := by
  unfold VBlk
  rw [h]
  congr 2
  apply Array.ext'
  apply List.ext_getElem?
  intro i
  unfold madeCells
  simp only [Array.toList_map, Array.toList_range, List.getElem?_map]
  by_cases hi : i < m * 6
  · have e : i = i / 6 * 6 + i % 6 := by omega
    have h4 : i % 6 < 6 := Nat.mod_lt _ (by omega)
    have hd : i / 6 < m := by omega
    rw [List.getElem?_range hi]
    have := flat_at Vl.pc 6 len_pc (List.replicate m Vl.zero) (i / 6) (i % 6) Vl.zero (by simp [hd]) h4
    rw [← e] at this
    rw [this]
    simp only [Option.map_some, Value.cells, List.size_toArray, List.length_cons, List.length_nil]
    generalize i % 6 = j at h4
    match j, h4 with
    | 0, _ => rfl
    | 1, _ => rfl
    | 2, _ => rfl
    | 3, _ => rfl
    | 4, _ => rfl
    | 5, _ => rfl
  · rw [List.getElem?_eq_none (by simp; omega), List.getElem?_eq_none (by rw [flat_len Vl.pc 6 len_pc, List.length_replicate]; omega)]
    rfl
theorem setCells_block {g : Nat} {t : TypeId} : ∀ (vs pre old post : List Value) (o : Nat) (w : World), w.heap[g]? = some (.cells (pre ++ old ++ post).toArray t (0, 0)) → pre.length = o → old.length = vs.length →
    (w.setCells g o vs).heap[g]? = some (.cells (pre ++ vs ++ post).toArray t (0, 0)) ∧ w.grownBy (w.setCells g o vs) (some g)
  | [], pre, old, post, o, w, h, _, hl => by
    have : old = [] := List.eq_nil_of_length_eq_zero hl
    subst this
    exact ⟨h, World.grownBy.refl w _⟩
  | v :: vs, pre, u :: old, post, o, w, h, hp, hl => by
    subst hp
    have h1 := heap_setCell_same w g pre.length _ t v h
    have e : (pre ++ u :: old ++ post).toArray.setIfInBounds pre.length v = ((pre ++ [v]) ++ old ++ post).toArray := by
      simp
    rw [e] at h1
    have h2 := setCells_block vs (pre ++ [v]) old post (pre.length + 1) (w.setCell ⟨g, pre.length, none⟩ v) h1 (by simp) (by simpa using hl)
    refine ⟨by simpa [World.setCells] using h2.1, ?_⟩
    have hg : w.grownBy (w.setCell ⟨g, pre.length, none⟩ v) (some g) := ⟨rfl, rfl, rfl, by simp [World.setCell], fun k hk hn => Below.heap_setCell w _ v k (by rintro rfl; exact hn rfl)⟩
    exact ⟨h2.2.os.trans hg.os, h2.2.tape.trans hg.tape, h2.2.output.trans hg.output, Nat.le_trans hg.size h2.2.size, fun k hk hn => (h2.2.block k (Nat.lt_of_lt_of_le hk hg.size) hn).trans (hg.block k hk hn)⟩
  | v :: vs, pre, [], post, o, w, h, _, hl => by simp at hl
/-- A whole value stored into the midst of a block. -/
theorem wpList_store_part {P : Program} {ops : Array Oper} {rest : List Oper} {o : Oper} {a : Act} {w : World} {Q : Exit → Act → World → Prop} (hgd : o.guard = none) (ty : TypeId) (x y : Operand) (ho : o.op = .store ty x y)
    (g off : Nat) (vs pre old post : List Value) (hx : a.eval x = .pointer (some ⟨g, off, none⟩)) (hy : a.eval y = .agg vs.toArray) (t : TypeId) (hg : w.heap[g]? = some (.cells (pre ++ old ++ post).toArray t (0, 0)))
    (hp : pre.length = off) (hl : old.length = vs.length) (hi : (P.info? ty).map (·.size) = some vs.length) (h1 : ∀ v ∈ vs, v.oneCell' = true)
    (h : ∀ w', w'.heap[g]? = some (.cells (pre ++ vs ++ post).toArray t (0, 0)) → w.grownBy w' (some g) → wpList P ops Q rest (a.put o.dst undef) w') : wpList P ops Q (o :: rest) a w := by
  obtain ⟨k1, k2⟩ := setCells_block vs pre old post off w hg hp hl
  refine wpList_store_mid hgd ty x y ho g off vs.toArray hx hy (fun j hj => ?_) (by simpa using hi) (all_oneCell_toArray h1) (h _ (by simpa using k1) (by simpa using k2))
  have hj' : j < vs.length := by simpa using hj
  refine ⟨?_, frozen_of_row w g (off + j) _ t hg⟩
  rw [cell_of_row w g (off + j) _ t _ hg]
  simp only [List.getElem?_toArray, Option.isSome_iff_exists]
  exact ⟨_, List.getElem?_eq_getElem (by simp; omega)⟩
/-- Element k of a block of values is stored anew. -/
theorem VBlk.parts {w : World} {g k : Nat} {l : List Vl} (h : VBlk w g l) (hk : k < l.length) : w.heap[g]? = some (.cells ((l.take k).flatMap Vl.pc ++ l[k].pc ++ (l.drop (k + 1)).flatMap Vl.pc).toArray 56 (0, 0)) := by
  have e : l = l.take k ++ l[k] :: l.drop (k + 1) := by
    rw [← List.drop_eq_getElem_cons hk, List.take_append_drop]
  unfold VBlk at h
  rw [h]
  congr 3
  have e2 := congrArg (List.flatMap Vl.pc) e
  simp only [List.flatMap_append, List.flatMap_cons] at e2
  rw [List.append_assoc]
  exact e2
theorem VBlk.stored {w : World} {g k : Nat} {l : List Vl} {v : Vl} (hk : k < l.length) (h : w.heap[g]? = some (.cells ((l.take k).flatMap Vl.pc ++ v.pc ++ (l.drop (k + 1)).flatMap Vl.pc).toArray 56 (0, 0))) : VBlk w g (l.set k v) := by
  unfold VBlk
  rw [h]
  congr 3
  rw [List.set_eq_take_append_cons_drop, if_pos hk]
  simp
/-- A whole value stored into a block of values. -/
theorem wpList_store_val {ops : Array Oper} {rest : List Oper} {o : Oper} {a : Act} {w : World} {Q : Exit → Act → World → Prop} (hgd : o.guard = none) (x y : Operand) (ho : o.op = .store 56 x y)
    (g k : Nat) (l : List Vl) (v : Vl) (hx : a.eval x = .pointer (some ⟨g, k * 6, none⟩)) (hy : a.eval y = v.p) (hg : VBlk w g l) (hk : k < l.length)
    (h : ∀ w', VBlk w' g (l.set k v) → w.grownBy w' (some g) → wpList Try.prog ops Q rest (a.put o.dst undef) w') : wpList Try.prog ops Q (o :: rest) a w :=
  wpList_store_part hgd 56 x y ho g (k * 6) v.pc _ l[k].pc _ hx hy 56 (hg.parts hk) (by rw [flat_len Vl.pc 6 len_pc, List.length_take]; congr 1; omega) (by rw [len_pc, len_pc]) (by rw [len_pc]; kernel_rfl)
    (fun u hu => one_pc [v] u (by simpa using hu)) (fun w' hb hgw => h w' (VBlk.stored hk hb) hgw)
end Go.Proofs.Ytbjfgnkjmfcokaa
