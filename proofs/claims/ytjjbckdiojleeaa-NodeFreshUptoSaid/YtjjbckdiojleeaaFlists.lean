/- The contract of the document's ListsOfPage over a page of the caller's own. No condition but the page's size. -/
import Derived.Test.YtjjbckdiojleeaaLot
import Derived.Test.YtjjbckdiojleeaaRapart
import Derived.Test.YtjjbckdiojleeaaNput
import Derived.IntWalk
namespace Go.Proofs.Ytjjbckdiojleeaa
open Go.RowKit Go.Proofs
set_option linter.unusedVariables false
/-- The lists that lie so far in the call's own list; the box of the page stands. -/
structure LsS (w0 : World) (t : Obj) (v : Value) (n : Nat) (xs : List Value) (w : World) : Prop where
  own : w.ownsRow (w0.heap.size + 1) 24 1 v n xs
  box : w.heap[w0.heap.size]? = some t
  ext : Ext w0 w
theorem LsS.more {w0 w w' : World} {t : Obj} {v : Value} {n : Nat} {xs : List Value} (h : LsS w0 t v n xs w) (he : Ext w w') : LsS w0 t v n xs w' := ⟨own_ext h.own he, he.blk h.box, h.ext.trans he⟩
set_option maxHeartbeats 2000000 in
theorem lists_any {d : PgD} {B : Nat} {w : World} (h : d.Ok B w) (hn : d.p.items.length ≤ 2097152) :
    Calls Try.prog 49 #[d.v] w fun e w' => ∃ A c, e = .returned (.slice A d.bytes.length c) ∧ w'.ownsRow w.heap.size 24 1 (.slice A d.bytes.length c) d.bytes.length d.bytes ∧ Ext w w' := by
  obtain ⟨i1, hi1, hy0, hy1, hy2⟩ := info_parts infoSlB
  obtain ⟨⟨kind, level, items, data, next⟩, iA, ic, dA, dc, ps⟩ := d
  obtain ⟨hI, hD⟩ := h
  dsimp only at hI hD hn
  have hpl := hI.each.length
  have hbl : (PgD.bytes ⟨⟨kind, level, items, data, next⟩, iA, ic, dA, dc, ps⟩).length = 1 + 2 * items.length := by
    rw [← hpl]
    simp only [PgD.bytes, List.length_cons]
    have : ∀ ps : List (Value × Value), (flat ps).length = 2 * ps.length := fun ps => by
      induction ps with
      | nil => rfl
      | cons p ps ih => simp only [flat, List.flatMap_cons, List.length_append, List.length_cons, List.length_nil] at ih ⊢; omega
    rw [this]; omega
  have hb1 := heap_alloc_new w (Obj.cells #[.int .i64 kind, .int .i64 level, .slice iA items.length ic, .slice dA data.length dc, .int .i64 next] 26)
  have hE1 := ext_alloc w (Obj.cells #[.int .i64 kind, .int .i64 level, .slice iA items.length ic, .slice dA data.length dc, .int .i64 next] 26)
  obtain ⟨L, hL⟩ : ∃ L, (PgD.bytes ⟨⟨kind, level, items, data, next⟩, iA, ic, dA, dc, ps⟩) = L := ⟨_, rfl⟩
  have hL' : L = .slice dA data.length dc :: flat ps := hL.symm
  rw [hL] at hbl ⊢
  clear hL
  have HBL := Lib.hid hbl
  have HL := Lib.hid hL'
  clear hbl hL'
  show Calls _ _ #[.agg #[.int .i64 kind, .int .i64 level, .slice iA items.length ic, .slice dA data.length dc, .int .i64 next]] _ _
  go_enter Try.func49, Try.ntmps49
  go_wp2
  go_loopw [3, 4] (fun o ii wr => ∃ (i n : Nat) (A : Option Addr) (c : Nat), i ≤ items.length ∧ Hid (n = 1 + 2 * i) ∧ ii = .int .i64 i ∧ o = .slice A n c ∧ LsS w (Obj.cells #[.int .i64 kind, .int .i64 level, .slice iA items.length ic, .slice dA data.length dc, .int .i64 next] 26) (.slice A n c) n (.slice dA data.length dc :: flat (ps.take i)) wr) (fun _ ii _ => items.length - (intOf ii).toNat)
  case atStart =>
    refine ⟨0, 1, _, _, Nat.zero_le _, Lib.hid rfl, rfl, rfl, ?_⟩
    refine ⟨?_, (ext_alloc _ _).blk hb1, hE1.trans (ext_alloc _ _)⟩
    have := World.ownsRow_lit (base := w.heap.size + 1) (e := 24) (size := 1) (w.alloc (Obj.cells #[.int .i64 kind, .int .i64 level, .slice iA items.length ic, .slice dA data.length dc, .int .i64 next] 26)) #[.slice dA data.length dc] 1 (by simp) (by decide) rfl
    rw [World.size_alloc] at this
    exact own_mono this (by omega)
  case round =>
    obtain ⟨i, n, A, c, hi, HN, rfl, rfl, hS⟩ := hrel
    clear hb1 hE1
    have hbx := hS.box
    have p2 := cell_of_row wr w.heap.size 2 _ _ _ hbx
    simp only [List.getElem?_toArray, List.getElem?_cons_zero, List.getElem?_cons_succ] at p2
    by_cases hlt : i < items.length
    · have hii : (i : Int) < (items.length : Int) := by omega
      obtain ⟨x, hx⟩ : ∃ x, items[i]? = some x := ⟨_, List.getElem?_eq_getElem hlt⟩
      obtain ⟨p, hp, ⟨kA, kc, hk1, hk2⟩, ⟨vA, vc, hv1, hv2⟩⟩ := hI.each.at_ hx
      obtain ⟨g, cp, hgA, hgB, _⟩ := World.ownsRow.form hI.row (by omega)
      injection hgA with hA1 hA2 hA3
      subst hA1 hA3
      clear hA2
      have z0 := hI.cellAt hp hx (j := 0) (by omega)
      have z1 := hI.cellAt hp hx (j := 1) (by omega)
      simp only [itCells, hk1, hv1, List.getElem?_cons_zero, List.getElem?_cons_succ, Nat.add_zero] at z0 z1
      have hgl : g < w.heap.size := (World.ownsRow.lt hI.row g rfl).2
      have hIc : items.length ≤ ic := by
        rcases hI.row.2 with ⟨hv, _⟩ | ⟨g', cap, cur, hv, _, _, hle, _⟩
        · cases hv
        · injection hv with _ _ hc; subst hc; exact hle
      have hic : i < ic := by omega
      have hnx := HN.out
      have hnb : n ≤ 4194305 := by omega
      have hD : ∀ (k : Nat) (o : Obj), (Value.slice A n c).ownBlock = some k → k < wr.heap.size := fun k _ hk => (hS.own.lt k hk).2
      have hDw : ∀ (k : Nat) (o : Obj), (Value.slice A n c).ownBlock = some k → w.heap.size + 1 ≤ k := fun k _ hk => (hS.own.lt k hk).1
      have htk : flat (ps.take (i + 1)) = flat (ps.take i) ++ [.slice kA x.key.length kc, .slice vA x.val.length vc] := by
        rw [List.take_add_one, hp]
        simp [flat, hk1, hv1]
      have HTK := Lib.hid htk
      clear hk1 hk2 hv1 hv2 hx hp htk hnx
      generalize hxs : (Value.slice dA data.length dc :: flat (ps.take i)) = xs at hS
      have HXS := Lib.hid hxs
      have hws := hS.ext.size
      clear hxs
      go_wp2
      refine wp_region_rg (Exc fun k _ => (Value.slice A n c).ownBlock = some k) (rel_exc _) (fun w' => LsS w (Obj.cells #[.int .i64 kind, .int .i64 level, .slice (some ⟨g, 0, none⟩) items.length ic, .slice dA data.length dc, .int .i64 next] 26) (.slice A n c) n xs w') [0, 1, 2, 3, 4, 5, 6, 7, 8, 9, 10, 11, 12, 13, 14, 15] (fun i => match i with
        | 13 => some fun V => Built 24 wr.heap.size #[V 6, V 12]
        | _ => none) (fun i => match i with
        | 14 => some fun V v w' => ∃ A c, v = .slice A (n + 2) c ∧ LsS w (Obj.cells #[.int .i64 kind, .int .i64 level, .slice (some ⟨g, 0, none⟩) items.length ic, .slice dA data.length dc, .int .i64 next] 26) (.slice A (n + 2) c) (n + 2) (xs ++ [.slice kA x.key.length kc, .slice vA x.val.length vc]) w'
        | _ => none) (fun _ => false) (by kernel_rfl) (by kernel_rfl) (fun _ _ h he => h.more he) (hS.more (ext_drew _)) (fun W N hW hF0 hN => ?_)
      have hEW : Exc (fun k _ => (Value.slice A n c).ownBlock = some k) wr W := Exc.of_ext hW
      have hX : ∀ w', Exc (fun k _ => (Value.slice A n c).ownBlock = some k) W w' → Exc (fun k _ => (Value.slice A n c).ownBlock = some k) wr w' := fun w' h => hEW.trans h
      have e2 : ∀ w', Exc (fun k _ => (Value.slice A n c).ownBlock = some k) W w' → w'.cell? ⟨w.heap.size, 2, none⟩ = some (.slice (some ⟨g, 0, none⟩) items.length ic) := fun w' h => cell_of_row _ _ _ _ _ _ ((hX w' h).blk hbx (fun e => by have := hDw _ (Obj.cells #[] 0) e; omega))
      have y0 : ∀ w', Exc (fun k _ => (Value.slice A n c).ownBlock = some k) W w' → w'.cell? ⟨g, i * 4, none⟩ = some (.slice kA x.key.length kc) := fun w' h => ((hX w' h).to_ext hS.ext (fun k o e => by have := hDw _ o e; omega)).cell z0
      have y1 : ∀ w', Exc (fun k _ => (Value.slice A n c).ownBlock = some k) W w' → w'.cell? ⟨g, i * 4 + 1, none⟩ = some (.slice vA x.val.length vc) := fun w' h => ((hX w' h).to_ext hS.ext (fun k o e => by have := hDw _ o e; omega)).cell z1
      repeat (first | (apply wpR_one; (case ho => (simp only [List.getElem?_toArray, List.getElem?_cons_succ, List.getElem?_cons_zero]; try exact rfl)); (case hw => rfl); (case hl => rfl); (case hsp => rfl); (case he => rfl); (case hv => (intro w' hw'; (try (have hw2 := Ext.trans hEW hw')); (try (have hw3 := Exc.trans hEW hw')); (try (have hw4 := Exk.trans hEW hw')); (try (have hw5 := Mrk.trans hEW hw')); go_simp; exact rfl)); (case hw0 => (first | exact Below.refl _ _ | exact Exc.of_ext (Below.refl _ _) | exact Exk.of_ext (Below.refl _ _) | exact Mrk.of_ext (Below.refl _ _))); simp only [Act.put, List.setIfInBounds_toArray, List.set_cons_succ, List.set_cons_zero]) | (apply wpR_early; (case ho => (simp only [List.getElem?_toArray, List.getElem?_cons_succ, List.getElem?_cons_zero]; try exact rfl)); (case hw => rfl); (case hl => rfl); (case hsp => rfl); (case he => rfl); (case hv => (intro w' hw'; (try have hw2 := Ext.trans hEW hw'); go_simp; exact rfl)); simp only [Act.put, List.setIfInBounds_toArray, List.set_cons_succ, List.set_cons_zero]) | (apply wpR_pass; (case ho => (simp only [List.getElem?_toArray, List.getElem?_cons_succ, List.getElem?_cons_zero]; try exact rfl)); (case hw => rfl); (case hl => rfl); simp only [Act.put, List.setIfInBounds_toArray, List.set_cons_succ, List.set_cons_zero]))
      refine wpR_new (by ((simp only [List.getElem?_toArray, List.getElem?_cons_succ, List.getElem?_cons_zero]; try exact rfl))) _ rfl rfl rfl (fun V v => Built.lasts hD _ _) (fun V V' h => by simp only [h 6 (by kernel_rfl), h 12 (by kernel_rfl)]) (fun w' hw' hK => ?_) (fun v hv => ?_)
      · have hXs := (hEW.trans hw').size
        unfold opAt
        go_simp
        exact upAt_value ⟨ext_alloc _ _, _, rfl, hXs, heap_alloc_new _ _⟩
      obtain ⟨h, rfl⟩ : ∃ h, v = .slice (some ⟨h, 0, none⟩) 2 2 := by
        obtain ⟨_, _, _, h, e, _⟩ := hv
        exact ⟨h, e⟩
      clear hv
      simp only [Act.put, List.setIfInBounds_toArray, List.set_cons_succ, List.set_cons_zero]
      refine wpR_late (by ((simp only [List.getElem?_toArray, List.getElem?_cons_succ, List.getElem?_cons_zero]; try exact rfl))) _ rfl rfl (fun V v w' w2 ⟨A, c, h1, h2⟩ he => ⟨A, c, h1, h2.more he⟩) (fun V V' h => rfl) (fun w' hw' hK hF => ?_) (fun v hv => ?_)
      · have hF2 : LsS w (Obj.cells #[.int .i64 kind, .int .i64 level, .slice (some ⟨g, 0, none⟩) items.length ic, .slice dA data.length dc, .int .i64 next] 26) (.slice A n c) n xs w' := hF
        obtain ⟨h', e4, _, hbk⟩ := (hK 13 (by kernel_rfl)).2
        obtain rfl := sl_inj (show Value.slice (some ⟨h, 0, none⟩) 2 2 = _ from e4)
        have hbk' : w'.heap[h]? = some (Obj.cells #[.slice kA x.key.length kc, .slice vA x.val.length vc] 24 (0, 0)) := hbk
        have hnews : ∀ j u, ([.slice kA x.key.length kc, .slice vA x.val.length vc] : List Value)[j]? = some u → w'.cell? ((⟨h, 0, none⟩ : Addr).add j) = some u := fun j u hj => by
          rw [Addr.add_lit, cell_of_row _ _ _ _ _ _ hbk', Nat.zero_add]
          simpa using hj
        have hsz := hF2.ext.size
        refine opAt_list rfl #[] (fun Q hQ => ?_)
        refine wpList_append_own _ rfl _ _ 27 rfl (w.heap.size + 1) 24 i1 _ 1 24 Try.underlying27 hi1 hy0 hy1 hy2 rfl (by decide) _ _ _ rfl hF2.own ⟨h, 0, none⟩ 2 2 [.slice kA x.key.length kc, .slice vA x.val.length vc] rfl rfl hnews (by simp [Value.oneCell']) (by simp [maxLen]; omega) (by omega) (by have := (Array.getElem?_eq_some_iff.1 hF2.box).1; omega) ?_
        intro v' w2 hown2 hgrow2 _
        obtain ⟨A', c', rfl⟩ := slice_of_own hown2
        have hxc : Exc (fun k _ => (Value.slice A n c).ownBlock = some k) w' w2 := Exc.of_grown hgrow2 (fun g o hg _ => hg)
        exact hQ _ _ ⟨hxc, A', c', rfl, hown2, hxc.blk hF2.box (fun e => by have := hDw _ (Obj.cells #[] 0) e; omega), hxc.to_ext hF2.ext (fun k o e => by have := hDw _ o e; omega)⟩
      obtain ⟨A5, c5, rfl⟩ : ∃ A c, v = .slice A (n + 2) c := by
        obtain ⟨_, _, A, c, e, _⟩ := hv
        exact ⟨A, c, e⟩
      clear hv
      simp only [Act.put, List.setIfInBounds_toArray, List.set_cons_succ, List.set_cons_zero]
      repeat (first | (apply wpR_one; (case ho => (simp only [List.getElem?_toArray, List.getElem?_cons_succ, List.getElem?_cons_zero]; try exact rfl)); (case hw => rfl); (case hl => rfl); (case hsp => rfl); (case he => rfl); (case hv => (intro w' hw'; (try (have hw2 := Ext.trans hEW hw')); (try (have hw3 := Exc.trans hEW hw')); (try (have hw4 := Exk.trans hEW hw')); (try (have hw5 := Mrk.trans hEW hw')); go_simp; exact rfl)); (case hw0 => (first | exact Below.refl _ _ | exact Exc.of_ext (Below.refl _ _) | exact Exk.of_ext (Below.refl _ _) | exact Mrk.of_ext (Below.refl _ _))); simp only [Act.put, List.setIfInBounds_toArray, List.set_cons_succ, List.set_cons_zero]) | (apply wpR_early; (case ho => (simp only [List.getElem?_toArray, List.getElem?_cons_succ, List.getElem?_cons_zero]; try exact rfl)); (case hw => rfl); (case hl => rfl); (case hsp => rfl); (case he => rfl); (case hv => (intro w' hw'; (try have hw2 := Ext.trans hEW hw'); go_simp; exact rfl)); simp only [Act.put, List.setIfInBounds_toArray, List.set_cons_succ, List.set_cons_zero]) | (apply wpR_pass; (case ho => (simp only [List.getElem?_toArray, List.getElem?_cons_succ, List.getElem?_cons_zero]; try exact rfl)); (case hw => rfl); (case hl => rfl); simp only [Act.put, List.setIfInBounds_toArray, List.set_cons_succ, List.set_cons_zero]))
      apply wpR_nil
      apply hN
      intro w5 hE' hK hF
      have hF5 : LsS w (Obj.cells #[.int .i64 kind, .int .i64 level, .slice (some ⟨g, 0, none⟩) items.length ic, .slice dA data.length dc, .int .i64 next] 26) (.slice A5 (n + 2) c5) (n + 2) (xs ++ [.slice kA x.key.length kc, .slice vA x.val.length vc]) w5 := by
        obtain ⟨A', c', e, h⟩ := hF
        injection e with e1 _ e2
        subst e1 e2
        exact h
      clear hK hN hF e2 y0 y1 hX hEW hE' hD hDw hF0 hW hS
      go_wp2
      go_roundw
      case rel => exact ⟨i + 1, n + 2, A5, c5, by omega, Lib.hid (by have := HN.out; omega), by go_num, rfl, by rw [HTK.out, ← List.cons_append, HXS.out]; exact hF5⟩
      case measure => simp [intOf]; omega
    · obtain rfl : i = items.length := by omega
      obtain rfl : n = 1 + 2 * items.length := HN.out
      have hLL : L = .slice dA data.length dc :: flat (ps.take items.length) := by rw [List.take_of_length_le (by omega)]; exact HL.out
      have HLL := Lib.hid hLL
      clear hLL
      go_wp2
      go_ret
      exact ⟨A, c, by rw [HBL.out]; rfl, by rw [HBL.out, HLL.out]; exact own_mono hS.own (by omega), hS.ext⟩
end Go.Proofs.Ytjjbckdiojleeaa
