/- Layer 5: the document's Copy, Same, First. No condition. -/
import Derived.Test.YtffapgemacbdjaaRec2
namespace Go.Proofs.Ytffapgemacbdjaa
open Go.RowKit Go.Proofs Go.Shelf
set_option linter.unusedVariables false
attribute [local go_sem] Oper.semAt_some
def LitRr (x : Rn) (z : Value) (V : World) : Prop := ∃ g, z = .slice (some ⟨g, 0, none⟩) 1 1 ∧ V.heap[g]? = some (.cells #[.int .i64 x.lo, .int .i64 x.hi] 26 (0, 0))
/-- Neither the header's block nor the row's. -/
def OutD (B : Nat) (A1 : Option Addr) (c1 n g : Nat) : Prop := ¬ (B ≤ g ∧ (g = B ∨ (Value.slice A1 n c1).ownBlock = some g))
/-- A set that is being made: its header, its row. -/
def MakR (B q : Nat) (A1 : Option Addr) (c1 : Nat) (M : List Rn) (V : World) : Prop := RowRr B V A1 c1 M ∧ V.heap[q]? = some (.cells #[.slice A1 M.length c1] 87 (0, 0))
theorem MakR.ext {B q : Nat} {A1 : Option Addr} {c1 : Nat} {M : List Rn} {V V' : World} (h : MakR B q A1 c1 M V) (he : Ext V V') : MakR B q A1 c1 M V' := ⟨h.1.ext he, he.blk h.2⟩
set_option maxRecDepth 100000 in
set_option maxHeartbeats 4000000 in
theorem rcopy_any {B p c : Nat} {A : Option Addr} {L : List Rn} {w : World} (hS : SetAtr B p A c w L) (hl : L.length ≤ 100000) :
    Calls Try.prog 70 #[.pointer (some ⟨p, 0, none⟩)] w fun e w' => ∃ q A' c', e = .returned (.pointer (some ⟨q, 0, none⟩)) ∧ w.heap.size ≤ q ∧ SetAtr w.heap.size q A' c' w' L ∧ Ext w w' := by
  obtain ⟨i0, hi0, hz0, hzz1, hzz2⟩ := info_parts infoRr
  have hplt := (Array.getElem?_eq_some_iff.1 hS.hd).1
  go_enter Try.func70, Try.ntmps70
  go_wp2
  go_loopw [4] (fun iv wr => ∃ (k : Nat) (A1 : Option Addr) (c1 : Nat) (M : List Rn), k ≤ L.length ∧ iv = .int .i64 k ∧ Hid (M = L.take k) ∧ M.length ≤ k ∧ MakR w.heap.size w.heap.size A1 c1 M wr ∧ Ext w wr) (fun iv _ => L.length - (intOf iv).toNat)
  case atStart => exact ⟨0, none, 0, [], Nat.zero_le _, rfl, Lib.hid rfl, Nat.le_refl _, ⟨World.ownsRow_nil _ _ _ _, heap_alloc_new _ _⟩, ext_alloc _ _⟩
  case round =>
    obtain ⟨k, A1, c1, M, hk, rfl, HM, hml, hmk, hE⟩ := hrel
    have q1 := cell_of_row wr p 0 _ _ _ (hS.ext hE).hd
    simp only [List.getElem?_toArray, List.getElem?_cons_zero] at q1
    have hszr := hE.size
    by_cases hlt : k < L.length
    · obtain ⟨x, hx⟩ : ∃ x, L[k]? = some x := ⟨_, List.getElem?_eq_getElem hlt⟩
      obtain ⟨g, rfl, hkc, hcx⟩ := (hS.row.ext hE).read hx
      have hts : L.take (k + 1) = M ++ [x] := by
        obtain ⟨h1, rfl⟩ := List.getElem?_eq_some_iff.1 hx
        rw [List.take_succ_eq_append_getElem h1, ← HM.out]
      have HM2 : Hid (M ++ [x] = L.take (k + 1)) := Lib.hid hts.symm
      obtain ⟨xl, xh⟩ := x
      have hrd := (hS.row.readg hx).2
      simp only at hrd
      clear hts HM hx hcx
      go_wp2
      refine wp_region_rg (Exc fun q _ => w.heap.size ≤ q ∧ (q = w.heap.size ∨ (Value.slice A1 M.length c1).ownBlock = some q)) (rel_exc _) (fun V => MakR w.heap.size w.heap.size A1 c1 M V) [0, 1, 2, 3, 4, 5, 6, 7, 8, 9, 10, 11, 12, 13, 14, 15, 16] (fun j => match j with
        | 12 => some fun _ z V => ∃ g, z = .slice (some ⟨g, 0, none⟩) 1 1 ∧ V.heap[g]? = some (.cells #[.int .i64 xl, .int .i64 xh] 26 (0, 0)) ∧ OutD w.heap.size A1 c1 M.length g
        | _ => none) (fun j => match j with
        | 13 => some fun _ z V => ∃ A' c', z = .slice A' (M.length + 1) c' ∧ RowRr w.heap.size V A' c' (M ++ [⟨xl, xh⟩]) ∧ V.heap[w.heap.size]? = some (.cells #[.slice A1 M.length c1] 87 (0, 0))
        | 16 => some fun _ z V => ∃ A' c', MakR w.heap.size w.heap.size A' c' (M ++ [⟨xl, xh⟩]) V
        | _ => none) (fun j => match j with | 4 => true | _ => false) (by kernel_rfl) (by kernel_rfl) (fun _ _ h he => h.ext he) (hmk.ext (Below.refl _ _).drew) (fun W N hW hF0 hN => ?_)
      have hEx : ∀ w', Exc (fun q _ => w.heap.size ≤ q ∧ (q = w.heap.size ∨ (Value.slice A1 M.length c1).ownBlock = some q)) W w' → Ext w w' := fun w' h => h.to_ext (hE.trans hW) (fun _ _ h => h.1)
      have hEW : Exc (fun q _ => w.heap.size ≤ q ∧ (q = w.heap.size ∨ (Value.slice A1 M.length c1).ownBlock = some q)) W W := exc_refl _ _
      have e0 : ∀ w', Ext W w' → w'.cell? ⟨w.heap.size, 0, none⟩ = some (.slice A1 M.length c1) := fun w' h => cell_of_row _ _ _ _ _ _ (h.blk hF0.2)
      have e1 : ∀ w', Exc (fun q _ => w.heap.size ≤ q ∧ (q = w.heap.size ∨ (Value.slice A1 M.length c1).ownBlock = some q)) W w' → w'.cell? ⟨p, 0, none⟩ = some (.slice (some ⟨g, 0, none⟩) L.length c) := fun w' h => cell_of_row _ _ _ _ _ _ (hS.ext (hEx w' h)).hd
      have x0 : ∀ w', Exc (fun q _ => w.heap.size ≤ q ∧ (q = w.heap.size ∨ (Value.slice A1 M.length c1).ownBlock = some q)) W w' → w'.cell? ⟨g, k * 2, none⟩ = some (.int .i64 xl) := fun w' h => (hrd _ (hEx w' h)).1
      have x1 : ∀ w', Exc (fun q _ => w.heap.size ≤ q ∧ (q = w.heap.size ∨ (Value.slice A1 M.length c1).ownBlock = some q)) W w' → w'.cell? ⟨g, k * 2 + 1, none⟩ = some (.int .i64 xh) := fun w' h => (hrd _ (hEx w' h)).2
      have hWs := hW.size
      have hol := fun g h => (World.ownsRow.lt hF0.1 g h).2
      have hgt := (Array.getElem?_eq_some_iff.1 hF0.2).1
      repeat (first | (apply wpR_one; (case ho => (simp only [List.getElem?_toArray, List.getElem?_cons_succ, List.getElem?_cons_zero]; try exact rfl)); (case hw => rfl); (case hl => rfl); (case hsp => rfl); (case he => rfl); (case hv => (intro w' hw'; (try (have hw2 := Ext.trans hEW hw')); (try (have hw3 := Exc.trans hEW hw')); (try (have hw4 := Exk.trans hEW hw')); (try (have hw5 := Mrk.trans hEW hw')); go_simp; exact rfl)); (case hw0 => (first | exact Below.refl _ _ | exact Exc.of_ext (Below.refl _ _) | exact Exk.of_ext (Below.refl _ _) | exact Mrk.of_ext (Below.refl _ _))); simp only [Act.put, List.setIfInBounds_toArray, List.set_cons_succ, List.set_cons_zero]) | (apply wpR_early; (case ho => (simp only [List.getElem?_toArray, List.getElem?_cons_succ, List.getElem?_cons_zero]; try exact rfl)); (case hw => rfl); (case hl => rfl); (case hsp => rfl); (case he => rfl); (case hv => (intro w' hw'; (try have hw2 := Ext.trans hEW hw'); go_simp; exact rfl)); simp only [Act.put, List.setIfInBounds_toArray, List.set_cons_succ, List.set_cons_zero]) | (apply wpR_pass; (case ho => (simp only [List.getElem?_toArray, List.getElem?_cons_succ, List.getElem?_cons_zero]; try exact rfl)); (case hw => rfl); (case hl => rfl); simp only [Act.put, List.setIfInBounds_toArray, List.set_cons_succ, List.set_cons_zero]))
      refine wpR_new (by ((simp only [List.getElem?_toArray, List.getElem?_cons_succ, List.getElem?_cons_zero]; try exact rfl))) _ rfl rfl rfl (fun V v w' w2 ⟨g, h1, h2, h3⟩ he => ⟨g, h1, he.blk h2 h3, h3⟩) (fun V V' h => rfl) (fun w' hw' hK => ?_) (fun v hv => ?_)
      · have hs := hw'.size
        clear x0 x1 e0 e1
        unfold opAt
        go_simp
        refine upAt_value ⟨ext_alloc _ _, w'.heap.size, rfl, heap_alloc_new _ _, ?_⟩
        rintro ⟨h1, h | h⟩
        · omega
        · have := hol _ h; omega
      obtain ⟨gb, rfl⟩ : ∃ g, v = .slice (some ⟨g, 0, none⟩) 1 1 := by
        obtain ⟨_, _, _, g, h, _⟩ := hv
        exact ⟨g, h⟩
      clear hv
      simp only [Act.put, List.setIfInBounds_toArray, List.set_cons_succ, List.set_cons_zero]
      refine wpR_late (by ((simp only [List.getElem?_toArray, List.getElem?_cons_succ, List.getElem?_cons_zero]; try exact rfl))) _ rfl rfl (fun V v w' w2 ⟨A', c', h1, h2, h3⟩ he => ⟨A', c', h1, h2.ext he, he.blk h3⟩) (fun V V' h => rfl) (fun w' hw' hK hF => ?_) (fun v hv => ?_)
      · obtain ⟨g3, e3, hb3, _⟩ := (hK 12 (by kernel_rfl)).2
        injection e3 with e3
        injection e3 with e3
        injection e3 with e3
        subst e3
        have hF2 : MakR w.heap.size w.heap.size A1 c1 M w' := hF
        have hX := (hEx w' hw').size
        refine opAt_list rfl #[] (fun Q hQ => ?_)
        refine wpList_append_apart rfl _ _ 22 rfl w.heap.size 26 i0 _ 2 16 Try.underlying22 hi0 hz0 hzz1 hzz2 rfl (by decide) _ M.length _ rfl hF2.1 ⟨gb, 0, none⟩ 1 1 [.int .i64 xl, .int .i64 xh] rfl rfl (fun j u hj => by rw [Addr.add_lit, cell_of_row _ _ _ _ _ _ hb3, Nat.zero_add]; simpa using hj) (roner [⟨xl, xh⟩]) (by decide) (by unfold maxLen; omega) (by omega) hX ?_
        intro v' w3 ho3 hc3
        have hnot := own_not hF2.1 hF2.2 (by decide)
        obtain ⟨A3, c3, rfl, o3, hx3⟩ := push1r (x := ⟨xl, xh⟩) hF2.1 ho3 hc3
        exact hQ _ _ ⟨⟨hx3.os, hx3.tape, hx3.output, hx3.size, fun k o hk hn => hx3.block k o hk (fun h => hn ⟨h.1, .inr h.2⟩)⟩, A3, c3, rfl, o3, hx3.blk hF2.2 (fun h => hnot h.2)⟩
      obtain ⟨A3, c3, rfl⟩ : ∃ A c, v = .slice A (M.length + 1) c := by
        obtain ⟨_, _, A, c, h, _⟩ := hv
        exact ⟨A, c, h⟩
      clear hv
      simp only [Act.put, List.setIfInBounds_toArray, List.set_cons_succ, List.set_cons_zero]
      repeat (first | (apply wpR_one; (case ho => (simp only [List.getElem?_toArray, List.getElem?_cons_succ, List.getElem?_cons_zero]; try exact rfl)); (case hw => rfl); (case hl => rfl); (case hsp => rfl); (case he => rfl); (case hv => (intro w' hw'; (try (have hw2 := Ext.trans hEW hw')); (try (have hw3 := Exc.trans hEW hw')); (try (have hw4 := Exk.trans hEW hw')); (try (have hw5 := Mrk.trans hEW hw')); go_simp; exact rfl)); (case hw0 => (first | exact Below.refl _ _ | exact Exc.of_ext (Below.refl _ _) | exact Exk.of_ext (Below.refl _ _) | exact Mrk.of_ext (Below.refl _ _))); simp only [Act.put, List.setIfInBounds_toArray, List.set_cons_succ, List.set_cons_zero]) | (apply wpR_early; (case ho => (simp only [List.getElem?_toArray, List.getElem?_cons_succ, List.getElem?_cons_zero]; try exact rfl)); (case hw => rfl); (case hl => rfl); (case hsp => rfl); (case he => rfl); (case hv => (intro w' hw'; (try have hw2 := Ext.trans hEW hw'); go_simp; exact rfl)); simp only [Act.put, List.setIfInBounds_toArray, List.set_cons_succ, List.set_cons_zero]) | (apply wpR_pass; (case ho => (simp only [List.getElem?_toArray, List.getElem?_cons_succ, List.getElem?_cons_zero]; try exact rfl)); (case hw => rfl); (case hl => rfl); simp only [Act.put, List.setIfInBounds_toArray, List.set_cons_succ, List.set_cons_zero]))
      refine wpR_late (by ((simp only [List.getElem?_toArray, List.getElem?_cons_succ, List.getElem?_cons_zero]; try exact rfl))) _ rfl rfl (fun V v w' w2 ⟨A', c', h1⟩ he => ⟨A', c', h1.ext he⟩) (fun V V' h => rfl) (fun w' hw' hK hF => ?_) (fun v hv => ?_)
      · obtain ⟨A', c', e, h1, h2⟩ := hF
        injection e with e1 _ e3
        subst e1 e3
        have c4 := cell_of_row w' w.heap.size 0 _ _ _ h2
        have f4 := frozen_of_row w' w.heap.size 0 _ _ h2
        have hb := heap_setCell_same w' w.heap.size 0 _ _ (.slice A3 (M.length + 1) c3) h2
        have hnot := own_not h1 h2 (by decide)
        have hgr : w'.grownBy (w'.setCell ⟨w.heap.size, 0, none⟩ (.slice A3 (M.length + 1) c3)) (some w.heap.size) := ⟨rfl, rfl, rfl, by simp [World.setCell], fun k hk hn => Below.heap_setCell w' _ _ k (by rintro rfl; exact hn rfl)⟩
        have h1' : RowRr w.heap.size (w'.setCell ⟨w.heap.size, 0, none⟩ (.slice A3 (M.length + 1) c3)) A3 c3 (M ++ [⟨xl, xh⟩]) := World.ownsRow.kept h1 hgr (.inr hnot)
        have hexc : Exc (fun q _ => w.heap.size ≤ q ∧ (q = w.heap.size ∨ (Value.slice A1 M.length c1).ownBlock = some q)) w' (w'.setCell ⟨w.heap.size, 0, none⟩ (.slice A3 (M.length + 1) c3)) := Exc.of_grown hgr (fun g o h _ => by injection h with h; subst h; exact ⟨Nat.le_refl _, .inl rfl⟩)
        have hmk2 : MakR w.heap.size w.heap.size A3 c3 (M ++ [⟨xl, xh⟩]) (w'.setCell ⟨w.heap.size, 0, none⟩ (.slice A3 (M.length + 1) c3)) := ⟨h1', by rw [List.length_append]; exact hb⟩
        clear h1 h2 hb h1' hgr x0 x1 e0 e1
        unfold opAt
        go_simp
        exact ⟨undef, rfl, hexc, A3, c3, hmk2⟩
      clear hv
      simp only [Act.put, List.setIfInBounds_toArray, List.set_cons_succ, List.set_cons_zero]
      repeat (first | (apply wpR_one; (case ho => (simp only [List.getElem?_toArray, List.getElem?_cons_succ, List.getElem?_cons_zero]; try exact rfl)); (case hw => rfl); (case hl => rfl); (case hsp => rfl); (case he => rfl); (case hv => (intro w' hw'; (try (have hw2 := Ext.trans hEW hw')); (try (have hw3 := Exc.trans hEW hw')); (try (have hw4 := Exk.trans hEW hw')); (try (have hw5 := Mrk.trans hEW hw')); go_simp; exact rfl)); (case hw0 => (first | exact Below.refl _ _ | exact Exc.of_ext (Below.refl _ _) | exact Exk.of_ext (Below.refl _ _) | exact Mrk.of_ext (Below.refl _ _))); simp only [Act.put, List.setIfInBounds_toArray, List.set_cons_succ, List.set_cons_zero]) | (apply wpR_early; (case ho => (simp only [List.getElem?_toArray, List.getElem?_cons_succ, List.getElem?_cons_zero]; try exact rfl)); (case hw => rfl); (case hl => rfl); (case hsp => rfl); (case he => rfl); (case hv => (intro w' hw'; (try have hw2 := Ext.trans hEW hw'); go_simp; exact rfl)); simp only [Act.put, List.setIfInBounds_toArray, List.set_cons_succ, List.set_cons_zero]) | (apply wpR_pass; (case ho => (simp only [List.getElem?_toArray, List.getElem?_cons_succ, List.getElem?_cons_zero]; try exact rfl)); (case hw => rfl); (case hl => rfl); simp only [Act.put, List.setIfInBounds_toArray, List.set_cons_succ, List.set_cons_zero]))
      apply wpR_nil
      apply hN
      intro w2 hE2 hK hF
      obtain ⟨A4, c4, hmk2⟩ : ∃ A' c', MakR w.heap.size w.heap.size A' c' (M ++ [(⟨xl, xh⟩ : Rn)]) w2 := hF
      have hEw2 := hEx w2 hE2
      clear hK hN hEx x0 x1 e0 e1 hEW hE2 hW hF0 hmk hE
      go_wp2
      go_roundw
      case rel => exact ⟨k + 1, A4, c4, M ++ [⟨xl, xh⟩], by omega, by go_num, HM2, by simp; omega, hmk2, hEw2⟩
      case measure => simp [intOf]; omega
    · obtain rfl : k = L.length := by omega
      obtain rfl : M = L := by have := HM.out; rwa [List.take_length] at this
      go_wp2
      go_ret
      exact ⟨_, A1, c1, rfl, Nat.le_refl _, ⟨hmk.2, hmk.1, hS.wf, hS.bd⟩, hE⟩
set_option maxRecDepth 100000 in
set_option maxHeartbeats 1000000 in
theorem rsame_any {B B' p p' c d : Nat} {A A' : Option Addr} {L M : List Rn} {w : World} (hS : SetAtr B p A c w L) (hT : SetAtr B' p' A' d w M) (hl : L.length ≤ 1000000) (hm : M.length ≤ 1000000) :
    Calls Try.prog 76 #[.pointer (some ⟨p, 0, none⟩), .pointer (some ⟨p', 0, none⟩)] w fun e w' => e = .returned (.bool (decide (L = M))) ∧ Ext w w' := by
  have z0 : ∀ W, Ext w W → W.cell? ⟨p, 0, none⟩ = some (.slice A L.length c) := fun W h => by
    have := cell_of_row W p 0 _ _ _ (hS.ext h).hd
    simpa using this
  have z1 : ∀ W, Ext w W → W.cell? ⟨p', 0, none⟩ = some (.slice A' M.length d) := fun W h => by
    have := cell_of_row W p' 0 _ _ _ (hT.ext h).hd
    simpa using this
  by_cases hll : L.length = M.length
  · have HLL := Lib.hid hll
    have h1 : (L.length : Int) = (M.length : Int) := by omega
    have hbq : ((L.length : Int) == (M.length : Int)) = true := by simpa using h1
    clear hll
    go_enter Try.func76, Try.ntmps76
    go_wp2
    refine wp_region_rg Ext rel_ext (fun _ => True) [0, 1, 2, 3, 4, 5, 6, 7, 8, 9, 10] (fun _ => none) (fun _ => none) (fun _ => false) (by kernel_rfl) (by kernel_rfl) (fun _ _ _ _ => trivial) trivial (fun W N hW _ hN => ?_)
    have hEW := hW
    repeat (first | (apply wpR_one; (case ho => (simp only [List.getElem?_toArray, List.getElem?_cons_succ, List.getElem?_cons_zero]; try exact rfl)); (case hw => rfl); (case hl => rfl); (case hsp => rfl); (case he => rfl); (case hv => (intro w' hw'; (try (have hw2 := Ext.trans hEW hw')); (try (have hw3 := Exc.trans hEW hw')); (try (have hw4 := Exk.trans hEW hw')); (try (have hw5 := Mrk.trans hEW hw')); go_simp; exact rfl)); (case hw0 => (first | exact Below.refl _ _ | exact Exc.of_ext (Below.refl _ _) | exact Exk.of_ext (Below.refl _ _) | exact Mrk.of_ext (Below.refl _ _))); simp only [Act.put, List.setIfInBounds_toArray, List.set_cons_succ, List.set_cons_zero]) | (apply wpR_early; (case ho => (simp only [List.getElem?_toArray, List.getElem?_cons_succ, List.getElem?_cons_zero]; try exact rfl)); (case hw => rfl); (case hl => rfl); (case hsp => rfl); (case he => rfl); (case hv => (intro w' hw'; (try have hw2 := Ext.trans hEW hw'); go_simp; exact rfl)); simp only [Act.put, List.setIfInBounds_toArray, List.set_cons_succ, List.set_cons_zero]) | (apply wpR_pass; (case ho => (simp only [List.getElem?_toArray, List.getElem?_cons_succ, List.getElem?_cons_zero]; try exact rfl)); (case hw => rfl); (case hl => rfl); simp only [Act.put, List.setIfInBounds_toArray, List.set_cons_succ, List.set_cons_zero]))
    apply wpR_nil
    apply hN
    intro w1 hE1 hK _
    have hEa := hEW.trans hE1
    clear hK hN hW hEW hE1
    go_wp2
    clear h1 hbq
    go_loopw [5] (fun i wr => ∃ k : Nat, k ≤ L.length ∧ i = .int .i64 k ∧ Hid (L.take k = M.take k) ∧ Ext w wr) (fun i _ => L.length - (intOf i).toNat)
    case atStart => exact ⟨0, Nat.zero_le _, rfl, Lib.hid rfl, hEa⟩
    case round =>
      obtain ⟨k, hk, rfl, HT, hE⟩ := hrel
      have q0 := z0 wr hE
      by_cases hlt : k < L.length
      · have hlt2 : k < M.length := by have := HLL.out; omega
        obtain ⟨u, hu⟩ : ∃ u, L[k]? = some u := ⟨_, List.getElem?_eq_getElem hlt⟩
        obtain ⟨v, hv⟩ : ∃ v, M[k]? = some v := ⟨_, List.getElem?_eq_getElem hlt2⟩
        obtain ⟨g, rfl, hkc, hcu⟩ := (hS.row.ext hE).read hu
        obtain ⟨g', rfl, hkd, hcv⟩ := (hT.row.ext hE).read hv
        have y0 : ∀ W, Ext wr W → W.cell? ⟨p, 0, none⟩ = some (.slice (some ⟨g, 0, none⟩) L.length c) := fun W h => z0 W (hE.trans h)
        have y1 : ∀ W, Ext wr W → W.cell? ⟨p', 0, none⟩ = some (.slice (some ⟨g', 0, none⟩) M.length d) := fun W h => z1 W (hE.trans h)
        have x0 : ∀ W, Ext wr W → W.cell? ⟨g, k * 2, none⟩ = some (.int .i64 u.lo) := fun W h => (hcu W h).1
        have x1 : ∀ W, Ext wr W → W.cell? ⟨g, k * 2 + 1, none⟩ = some (.int .i64 u.hi) := fun W h => (hcu W h).2
        have x2 : ∀ W, Ext wr W → W.cell? ⟨g', k * 2, none⟩ = some (.int .i64 v.lo) := fun W h => (hcv W h).1
        have x3 : ∀ W, Ext wr W → W.cell? ⟨g', k * 2 + 1, none⟩ = some (.int .i64 v.hi) := fun W h => (hcv W h).2
        have hq := neqRr u v
        have HU := Lib.hid hu
        have HV := Lib.hid hv
        clear hu hv hcu hcv
        go_wp2
        refine wp_region_rg Ext rel_ext (fun _ => True) [0, 1, 2, 3, 4, 5, 6, 7, 8, 9, 10, 11, 12, 13, 14] (fun _ => none) (fun _ => none) (fun _ => false) (by kernel_rfl) (by kernel_rfl) (fun _ _ _ _ => trivial) trivial (fun W N hW _ hN => ?_)
        have hEW := hW
        repeat (first | (apply wpR_one; (case ho => (simp only [List.getElem?_toArray, List.getElem?_cons_succ, List.getElem?_cons_zero]; try exact rfl)); (case hw => rfl); (case hl => rfl); (case hsp => rfl); (case he => rfl); (case hv => (intro w' hw'; (try (have hw2 := Ext.trans hEW hw')); (try (have hw3 := Exc.trans hEW hw')); (try (have hw4 := Exk.trans hEW hw')); (try (have hw5 := Mrk.trans hEW hw')); go_simp; exact rfl)); (case hw0 => (first | exact Below.refl _ _ | exact Exc.of_ext (Below.refl _ _) | exact Exk.of_ext (Below.refl _ _) | exact Mrk.of_ext (Below.refl _ _))); simp only [Act.put, List.setIfInBounds_toArray, List.set_cons_succ, List.set_cons_zero]) | (apply wpR_early; (case ho => (simp only [List.getElem?_toArray, List.getElem?_cons_succ, List.getElem?_cons_zero]; try exact rfl)); (case hw => rfl); (case hl => rfl); (case hsp => rfl); (case he => rfl); (case hv => (intro w' hw'; (try have hw2 := Ext.trans hEW hw'); go_simp; exact rfl)); simp only [Act.put, List.setIfInBounds_toArray, List.set_cons_succ, List.set_cons_zero]) | (apply wpR_pass; (case ho => (simp only [List.getElem?_toArray, List.getElem?_cons_succ, List.getElem?_cons_zero]; try exact rfl)); (case hw => rfl); (case hl => rfl); simp only [Act.put, List.setIfInBounds_toArray, List.set_cons_succ, List.set_cons_zero]))
        apply wpR_nil
        apply hN
        intro w' hE' hK _
        have hE2 := (hE.trans hEW).trans hE'
        clear hK hN x0 x1 x2 x3 y0 y1 hW hEW hE' hq
        by_cases huv : u = v
        · subst huv
          have HT2 : Hid (L.take (k + 1) = M.take (k + 1)) := Lib.hid (by
            obtain ⟨h1, e1⟩ := List.getElem?_eq_some_iff.1 HU.out
            obtain ⟨h2, e2⟩ := List.getElem?_eq_some_iff.1 HV.out
            rw [List.take_succ_eq_append_getElem h1, List.take_succ_eq_append_getElem h2, HT.out, e1, e2])
          rw [decide_eq_true rfl]
          go_wp2
          go_roundw
          case rel => exact ⟨k + 1, by omega, by go_num, HT2, hE2⟩
          case measure => simp [intOf]; omega
        · have HN := Lib.hid huv
          rw [decide_eq_false huv]
          clear huv
          go_wp2
          go_ret
          refine ⟨ret_bool ?_, hE2⟩
          symm
          simp only [decide_eq_false_iff_not]
          rintro rfl
          have h1 := HU.out
          rw [HV.out] at h1
          injection h1 with h1
          exact HN.out h1.symm
      · obtain rfl : k = L.length := by omega
        go_wp2
        go_ret
        refine ⟨ret_bool ?_, hE⟩
        symm
        have h1 := HT.out
        rw [List.take_length, HLL.out, List.take_length] at h1
        simpa using h1
  · have h1 : ¬ (L.length : Int) = (M.length : Int) := by omega
    have hbq : ((L.length : Int) == (M.length : Int)) = false := by simpa using h1
    go_enter Try.func76, Try.ntmps76
    go_wp2
    refine wp_region_rg Ext rel_ext (fun _ => True) [0, 1, 2, 3, 4, 5, 6, 7, 8, 9, 10] (fun _ => none) (fun _ => none) (fun _ => false) (by kernel_rfl) (by kernel_rfl) (fun _ _ _ _ => trivial) trivial (fun W N hW _ hN => ?_)
    have hEW := hW
    repeat (first | (apply wpR_one; (case ho => (simp only [List.getElem?_toArray, List.getElem?_cons_succ, List.getElem?_cons_zero]; try exact rfl)); (case hw => rfl); (case hl => rfl); (case hsp => rfl); (case he => rfl); (case hv => (intro w' hw'; (try (have hw2 := Ext.trans hEW hw')); (try (have hw3 := Exc.trans hEW hw')); (try (have hw4 := Exk.trans hEW hw')); (try (have hw5 := Mrk.trans hEW hw')); go_simp; exact rfl)); (case hw0 => (first | exact Below.refl _ _ | exact Exc.of_ext (Below.refl _ _) | exact Exk.of_ext (Below.refl _ _) | exact Mrk.of_ext (Below.refl _ _))); simp only [Act.put, List.setIfInBounds_toArray, List.set_cons_succ, List.set_cons_zero]) | (apply wpR_early; (case ho => (simp only [List.getElem?_toArray, List.getElem?_cons_succ, List.getElem?_cons_zero]; try exact rfl)); (case hw => rfl); (case hl => rfl); (case hsp => rfl); (case he => rfl); (case hv => (intro w' hw'; (try have hw2 := Ext.trans hEW hw'); go_simp; exact rfl)); simp only [Act.put, List.setIfInBounds_toArray, List.set_cons_succ, List.set_cons_zero]) | (apply wpR_pass; (case ho => (simp only [List.getElem?_toArray, List.getElem?_cons_succ, List.getElem?_cons_zero]; try exact rfl)); (case hw => rfl); (case hl => rfl); simp only [Act.put, List.setIfInBounds_toArray, List.set_cons_succ, List.set_cons_zero]))
    apply wpR_nil
    apply hN
    intro w1 hE1 hK _
    have hEa := hEW.trans hE1
    clear hK hN hW hEW hE1
    go_wp2
    go_ret
    exact ⟨ret_bool (by symm; simp only [decide_eq_false_iff_not]; rintro rfl; exact hll rfl), hEa⟩
end Go.Proofs.Ytffapgemacbdjaa
