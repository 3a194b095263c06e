/- Package runs, at uint16: goes. No condition but the bounds of the kind and of the sizes. -/
import Derived.Test.YtffapgemacbdjaaRid
namespace Go.Proofs.Ytffapgemacbdjaa
open Go.RowKit Go.Proofs Go.Shelf
set_option linter.unusedVariables false
attribute [local go_sem] Oper.semAt_some
theorem cells_abideEd {A B : World} {row : Option Nat} (hg : A.grownBy B row) (hr : ∀ q, row = some q → ∃ o : Obj, A.heap[q]? = some o ∧ o.isCells = false) {g : Nat} {cs : Array Value} {t : TypeId} {fr : Nat × Nat} (h : A.heap[g]? = some (.cells cs t fr)) : B.heap[g]? = some (.cells cs t fr) :=
  cells_abide (C := 0) hg (fun q e => .inr ⟨Nat.zero_le _, hr q e⟩) h
theorem run_equalIn_func_nild {P : Program} (w : World) (d : Nat) (t : TypeId) (x : Array TypeId) (y : Array TypeId) (z : Bool) (fn : Fn) (first cap : Array Value) (h : P.underlying t = some (.func x y z)) : (Op.equalIn (d + 1) t (.func fn first cap) .nilFunc).run P w = .ok false w := by
  simp [Op.equalIn, run_underlying h]
set_option maxRecDepth 100000 in
set_option maxHeartbeats 2000000 in
theorem goes_anyd {B B' b p c d k : Nat} {A A' : Option Addr} {L : List Rn} {w : World} (hW : WalkAtd B b A c w L) (hS : SetAtr B' p A' d w L) (hl : L.length ≤ 100000) (hk : k ≤ 200) :
    Calls Try.prog 112 #[walkVd b, .pointer (some ⟨p, 0, none⟩), .int .i64 k] w fun e w' => e = .returned (.bool true) ∧ Ext w w' := by
  have hplt := (Array.getElem?_eq_some_iff.1 hW.hd).1
  have hrowlt : ∀ q, (Value.slice A L.length c).ownBlock = some q → q < w.heap.size := fun q hq => (World.ownsRow.lt hW.row q hq).2
  have hfn : ∀ w, (binOp .eql 214 (walkVd b) .nilFunc).run Try.prog w = .ok (.bool false) w := fun w => by
    have h := run_equalIn_func_nild w 9999 214 _ _ _ (.func 157) #[] #[.pointer (some ⟨b, 0, none⟩)] Try.underlying214
    have h2 : (Op.equal 214 (walkVd b) .nilFunc).run Try.prog w = .ok false w := h
    simp only [binOp]
    simp [h2]
  have hwk : IntKind.i64.wrap ((k : Int) + 1) = ((k + 1 : Nat) : Int) := by rw [IntKind.wrap_i64]; omega
  refine (callsIn_wide (n := 0)).1 ?_
  refine callsIn_of_wp_marks Try.func112 rfl trivial ?_
  simp only [Try.ntmps112, List.size_toArray, List.length_cons, List.length_nil, Nat.reduceAdd, Nat.reduceSub, Array.replicate_succ, Array.replicate_zero, List.push_toArray, List.append_toArray, List.nil_append, List.cons_append]
  obtain ⟨wl, hwl⟩ : ∃ l, (numsL L).take (k + 1) = l := ⟨_, rfl⟩
  have HFI := first_any (n := k + 1) (hS.ext ((ext_alloc w (Obj.cells #[Value.int .i64 k] 3)).trans (ext_alloc _ (Obj.cells #[Value.bool false] 4)))) hl (by omega)
  rw [hwl] at HFI
  have HWL := Lib.hid hwl
  clear hwl
  gi_wp2
  refine ⟨trivial, rfl, (callsIn_wide.2 HFI).mono ?_⟩
  rintro e w1 ⟨A1, c1, rfl, hF, hE1⟩
  clear HFI
  have hE0 := (ext_alloc w (Obj.cells #[Value.int .i64 k] 3)).trans (ext_alloc _ (Obj.cells #[Value.bool false] 4))
  have hk1 := hE1.blk ((ext_alloc _ (Obj.cells #[Value.bool false] 4)).blk (heap_alloc_new w (Obj.cells #[Value.int .i64 k] 3)))
  have hr1 := hE1.blk (heap_alloc_new (w.alloc (Obj.cells #[Value.int .i64 k] 3)) (Obj.cells #[Value.bool false] 4))
  rw [World.size_alloc] at hr1
  have hrow : wl.length ≤ c1 ∧ (0 < wl.length → ∃ (g : Nat) (cur : Array Value), A1 = some ⟨g, 0, none⟩ ∧ w1.heap[g]? = some (.cells cur 3 (0, 0)) ∧ ∀ (i : Nat) (z : Int), wl[i]? = some z → cur[i]? = some (Value.int .i64 z)) := by
    rcases hF.2 with ⟨hv, h0⟩ | ⟨g, cap, cur, hv, hb, hg, hle, hm, hs, ht⟩
    · injection hv with _ _ h3
      exact ⟨by omega, fun h => by omega⟩
    · injection hv with h1 _ h3
      subst h1 h3
      refine ⟨hle, fun _ => ⟨g, cur, rfl, hg, fun i z hz => ?_⟩⟩
      have hi := (List.getElem?_eq_some_iff.1 hz).1
      have e : (ivs wl)[i]? = some (Value.int .i64 z) := by rw [List.getElem?_map, hz]; rfl
      rw [← ht, List.getElem?_take, if_pos (by omega)] at e
      simpa using e
  have hsz1 := hE1.size
  simp only [World.size_alloc] at hsz1
  have hEw := hE0.trans hE1
  clear hF hE1 hE0
  gi_wp2
  refine wpIn_cut (fun V => Ext w1 V ∧ V.heap.size = w1.heap.size + 2 ∧ V.heap[w1.heap.size]? = some (.cells #[.slice A1 wl.length c1] 23 (0, 0)) ∧ V.heap[w1.heap.size + 1]? = some (.cells #[.int .i64 0] 3 (0, 0)))
    ⟨(ext_alloc _ _).trans (ext_alloc _ _), by simp, (ext_alloc _ _).blk (heap_alloc_new _ _), by have := heap_alloc_new (w1.alloc (Obj.cells #[Value.slice A1 wl.length c1] 23)) (Obj.cells #[Value.int .i64 0] 3); rwa [World.size_alloc] at this⟩ ?_
  rintro w2 ⟨hE2, hz2, hb7, hb8⟩
  have hb5 := hE2.blk hk1
  have hb6 := hE2.blk hr1
  have hE := hEw.trans hE2
  have hz3 := Nat.le_of_eq hz2.symm
  clear hz2
  have hrl := hrow.1
  have HROW := Lib.hid hrow.2
  clear hk1 hr1 hrow
  refine wpIn_rangeX (α := Int) rfl (enters_of Try.func157 (by kernel_rfl) rfl)
    (all_seqd (Dk := fun q => q = w1.heap.size + 1) (hW.ext hE) (by omega) (fun q h => by omega) (by omega) (fun q hq h => by have := hrowlt q hq; omega))
    (fun q h => h.elim) (fun q h => by omega) (fun _ => rfl)
    (fun pre V => Exc (fun q _ => q = w1.heap.size + 1) w2 V ∧ V.heap[w1.heap.size + 1]? = some (.cells #[.int .i64 pre.length] 3 (0, 0)) ∧ pre.length ≤ k)
    (fun c pre V => c = .exit 0 ∧ Exc (fun q _ => q = w1.heap.size + 1) w2 V ∧ V.heap[w1.heap.size + 1]? = some (.cells #[.int .i64 pre.length] 3 (0, 0)) ∧ pre.length = k + 1) ?hI ?hIx ?h0
    (fun x a' V => a' = { tmps := #[walkVd b, Value.pointer (some ⟨p, 0, none⟩), .int .i64 k, undef, undef, .pointer (some ⟨w.heap.size, 0, none⟩), .pointer (some ⟨w.heap.size + 1, 0, none⟩), .pointer (some ⟨w1.heap.size, 0, none⟩), .pointer (some ⟨w1.heap.size + 1, 0, none⟩), .int .u16 x, walkVd b, .bool false, .pointer (some ⟨p, 0, none⟩), .int .i64 k, .int .i64 ((k : Int) + 1), .slice A1 wl.length c1, walkVd b, .int .u16 x, undef, undef, undef, undef, undef, undef, undef, undef, undef, undef, undef, undef, undef, undef, undef, undef, undef, undef, undef, undef, undef, undef], defers := [] })
    ?hAx ?assign ?body ?done ?stop
  case hI =>
    rintro s A' B' row ⟨x1, x2, x3⟩ hg hrw
    have hlow : ∀ q, row = some q → w2.heap.size ≤ q := fun q e => by
      rcases hrw q e with h | ⟨h, _⟩
      · exact h.elim
      · exact h
    exact ⟨exc_grown_new x1 hg hlow, (hg.block _ (Array.getElem?_eq_some_iff.1 x2).1 (fun e => by have := hlow _ e.symm; omega)).trans x2, x3⟩
  case hIx =>
    rintro cc s A' B' row ⟨x0, x1, x2, x3⟩ hg hrw
    have hlow : ∀ q, row = some q → w2.heap.size ≤ q := fun q e => by
      rcases hrw q e with h | ⟨h, _⟩
      · exact h.elim
      · exact h
    exact ⟨x0, exc_grown_new x1 hg hlow, (hg.block _ (Array.getElem?_eq_some_iff.1 x2).1 (fun e => by have := hlow _ e.symm; omega)).trans x2, x3⟩
  case h0 => exact ⟨exc_refl _ _, hb8, Nat.zero_le _⟩
  case hAx => exact fun x a' A' B' row h _ _ => h
  case assign =>
    intro l2 y V K hsz hK
    gi_wp2
    exact hK _ _ (Below.refl _ _) (by first | rfl | (simp; done) | go_simp)
  case body =>
    rintro l2 pre x a' V ⟨hX, hnb, hpk⟩ rfl hsp hsz
    have hat : (numsL L)[pre.length]? = some x := by
      obtain ⟨t, ht⟩ := hsp
      rw [← ht, List.append_assoc, List.getElem?_append_right (Nat.le_refl _), Nat.sub_self]
      rfl
    have hwa : wl[pre.length]? = some x := by
      rw [← HWL.out, List.getElem?_take, if_pos (by omega)]
      exact hat
    have hxb := numsL_bd (m := 0) (M := 65535) (fun r hr => ⟨(hW.bd r hr).1.1, (hW.bd r hr).2.2⟩) x (List.mem_of_getElem? hat)
    have hlen := (List.getElem?_eq_some_iff.1 hwa).1
    obtain ⟨g, cur, rfl, hg1, hcur⟩ := HROW.out (by omega)
    have hgs := (Array.getElem?_eq_some_iff.1 hg1).1
    have h5 := hX.blk hb5 (by omega)
    have h7 := hX.blk hb7 (by omega)
    have hgV := hX.blk (hE2.blk hg1) (by omega)
    have q5 := cell_of_row V w.heap.size 0 _ _ _ h5
    have q7 := cell_of_row V w1.heap.size 0 _ _ _ h7
    have q8 := cell_of_row V (w1.heap.size + 1) 0 _ _ _ hnb
    have qg := cell_of_row V g pre.length _ _ _ hgV
    rw [hcur _ _ hwa] at qg
    have f8 := frozen_of_row V (w1.heap.size + 1) 0 _ _ hnb
    simp only [List.getElem?_toArray, List.getElem?_cons_zero] at q5 q7 q8
    have hwx : IntKind.i64.wrap x = x := by rw [IntKind.wrap_i64]; omega
    have hwp : IntKind.i64.wrap ((pre.length : Int) + 1) = ((pre.length : Int) + 1) := by rw [IntKind.wrap_i64]; omega
    have k1 := heap_setCell_same V (w1.heap.size + 1) 0 _ _ (.int .i64 ((pre.length : Int) + 1)) hnb
    have hgr : V.grownBy (V.setCell ⟨w1.heap.size + 1, 0, none⟩ (.int .i64 ((pre.length : Int) + 1))) (some (w1.heap.size + 1)) := ⟨rfl, rfl, rfl, by simp [World.setCell], fun k hk hn => Below.heap_setCell V _ _ k (by rintro rfl; exact hn rfl)⟩
    have hX2 : Exc (fun q _ => q = w1.heap.size + 1) w2 (V.setCell ⟨w1.heap.size + 1, 0, none⟩ (.int .i64 ((pre.length : Int) + 1))) := hX.trans (Exc.of_grown hgr (fun q o h _ => by injection h with h; exact h.symm))
    have hXX : RoundX (fun q => q = w1.heap.size + 1) w2.heap.size V (V.setCell ⟨w1.heap.size + 1, 0, none⟩ (.int .i64 ((pre.length : Int) + 1))) := Exc.of_grown hgr (fun q o h _ => by injection h with h; exact .inl h.symm)
    have k5 := (Below.heap_setCell V ⟨w1.heap.size + 1, 0, none⟩ (.int .i64 ((pre.length : Int) + 1)) w.heap.size (show w.heap.size ≠ w1.heap.size + 1 by omega)).trans h5
    have r5 := cell_of_row _ w.heap.size 0 _ _ _ k5
    have r8 := cell_of_row _ (w1.heap.size + 1) 0 _ _ _ k1
    have hpl : (pre ++ [x]).length = pre.length + 1 := by simp
    have HPL := Lib.hid hpl
    have hlen2 : ¬ wl.length ≤ pre.length := by omega
    have hpc : pre.length < c1 := by omega
    clear hnb h5 h7 hgV hgr hX hat hwa hpl k5
    simp only [List.getElem?_toArray, List.setIfInBounds_toArray, List.set_cons_zero, List.getElem?_cons_zero] at r5 r8 k1
    by_cases hgt : k < pre.length + 1
    · have hgt2 : (k : Int) < ((pre.length : Int) + 1) := by omega
      gi_wp2
      exact ⟨hXX, rfl, hX2, by rw [HPL.out, Int.natCast_add]; exact k1, by rw [HPL.out]; omega⟩
    · have hgt2 : ¬ (k : Int) < ((pre.length : Int) + 1) := by omega
      gi_wp2
      exact ⟨hXX, hX2, by rw [HPL.out, Int.natCast_add]; exact k1, by rw [HPL.out]; omega⟩
  case stop =>
    rintro E cc pre V hsp ⟨rfl, hX, hnb, hpk⟩ hEs hKE
    have hlen : (pre.length : Int) = (wl.length : Int) := by
      obtain ⟨t, ht⟩ := hsp
      have := congrArg List.length ht
      rw [← HWL.out, List.length_take, ← this, List.length_append]
      omega
    clear hpk
    have h7 := hX.blk hb7 (by omega)
    have h6 := hX.blk hb6 (by omega)
    have q7 := cell_of_row V w1.heap.size 0 _ _ _ h7
    have q8 := cell_of_row V (w1.heap.size + 1) 0 _ _ _ hnb
    have q6 := cell_of_row V (w.heap.size + 1) 0 _ _ _ h6
    have f6 := frozen_of_row V (w.heap.size + 1) 0 _ _ h6
    simp only [List.getElem?_toArray, List.getElem?_cons_zero] at q7 q8 q6
    have hq : ((pre.length : Int) == (wl.length : Int)) = true := by simpa using hlen
    have k1 := heap_setCell_same V (w.heap.size + 1) 0 _ _ (.bool true) h6
    have hgr : V.grownBy (V.setCell ⟨w.heap.size + 1, 0, none⟩ (.bool true)) (some (w.heap.size + 1)) := ⟨rfl, rfl, rfl, by simp [World.setCell], fun k hk hn => Below.heap_setCell V _ _ k (by rintro rfl; exact hn rfl)⟩
    have hKE2 := (hgr.block E (Array.getElem?_eq_some_iff.1 hKE).1 (fun e => by injection e with e; omega)).trans hKE
    have hEV : Ext w V := hX.to_ext hE (fun q o h => by omega)
    have hEE : Ext w ((V.setCell ⟨w.heap.size + 1, 0, none⟩ (.bool true)).putObj E (.deferred none)) := ext_only (ext_only hEV hgr (by omega)) (grownBy_putObj' _ E _) (by omega)
    have k2 := cell_of_row ((V.setCell ⟨w.heap.size + 1, 0, none⟩ (.bool true)).putObj E (.deferred none)) (w.heap.size + 1) 0 _ _ _ ((World.putObj_heap_other (show w.heap.size + 1 ≠ E by omega)).trans k1)
    clear hgr h6 h7 hnb k1 hX hlen
    gi_wp2
    refine ⟨by simp, .inl ⟨_, _, rfl, run_takeDeferred hKE2, ?_⟩⟩
    exact ⟨_, results_cell1d rfl _ _ (w.heap.size + 1) _ _ rfl k2 Try.underlying4 rfl, rfl, hEE⟩
  case done =>
    rintro E xs V rfl ⟨hX, hnb, hpk⟩ hEs hKE
    have hlen : ((numsL L).length : Int) = (wl.length : Int) := by
      rw [← HWL.out, List.length_take]
      omega
    have h7 := hX.blk hb7 (by omega)
    have h6 := hX.blk hb6 (by omega)
    have q7 := cell_of_row V w1.heap.size 0 _ _ _ h7
    have q8 := cell_of_row V (w1.heap.size + 1) 0 _ _ _ hnb
    have q6 := cell_of_row V (w.heap.size + 1) 0 _ _ _ h6
    have f6 := frozen_of_row V (w.heap.size + 1) 0 _ _ h6
    simp only [List.getElem?_toArray, List.getElem?_cons_zero] at q7 q8 q6
    have hq : (((numsL L).length : Int) == (wl.length : Int)) = true := by simpa using hlen
    have k1 := heap_setCell_same V (w.heap.size + 1) 0 _ _ (.bool true) h6
    have hgr : V.grownBy (V.setCell ⟨w.heap.size + 1, 0, none⟩ (.bool true)) (some (w.heap.size + 1)) := ⟨rfl, rfl, rfl, by simp [World.setCell], fun k hk hn => Below.heap_setCell V _ _ k (by rintro rfl; exact hn rfl)⟩
    have hKE2 := (hgr.block E (Array.getElem?_eq_some_iff.1 hKE).1 (fun e => by injection e with e; omega)).trans hKE
    have hEV : Ext w V := hX.to_ext hE (fun q o h => by omega)
    have hEE : Ext w ((V.setCell ⟨w.heap.size + 1, 0, none⟩ (.bool true)).putObj E (.deferred none)) := ext_only (ext_only hEV hgr (by omega)) (grownBy_putObj' _ E _) (by omega)
    have k2 := cell_of_row ((V.setCell ⟨w.heap.size + 1, 0, none⟩ (.bool true)).putObj E (.deferred none)) (w.heap.size + 1) 0 _ _ _ ((World.putObj_heap_other (show w.heap.size + 1 ≠ E by omega)).trans k1)
    clear hgr h6 h7 hnb k1 hX hlen
    gi_wp2
    refine ⟨by simp, .inl ⟨_, _, rfl, run_takeDeferred hKE2, ?_⟩⟩
    exact ⟨_, results_cell1d rfl _ _ (w.heap.size + 1) _ _ rfl k2 Try.underlying4 rfl, rfl, hEE⟩
end Go.Proofs.Ytffapgemacbdjaa
