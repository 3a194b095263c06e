/- Package runs, at uint16: Has, Lowest, New, Copy. No condition but the bounds of the kind and of the sizes. -/
import Derived.Test.YtffapgemacbdjaaRgd
namespace Go.Proofs.Ytffapgemacbdjaa
open Go.RowKit Go.Proofs Go.Shelf
set_option linter.unusedVariables false
attribute [local go_sem] Oper.semAt_some
theorem results_cell1d {P : Program} {fn : Func} {p : Tmp} {ty : TypeId} (h : fn.results = #[.cell p ty]) (tmps : Array Value) (w : World) (g : Nat) (v : Value) (d : TypeDesc)
    (hp : tmps.getD p undef = .pointer (some ⟨g, 0, none⟩)) (hc : w.cell? ⟨g, 0, none⟩ = some v) (hu : P.underlying ty = some d) (hd : (match d with | .struct _ | .array _ _ => true | _ => false) = false) :
    (results fn tmps).run P w = .ok v w := by
  have hp' : tmps[p]?.getD undef = .pointer (some ⟨g, 0, none⟩) := by simpa using hp
  have hagg : (isAgg ty).run P w = .ok false w := by
    simp only [isAgg]
    cases d <;> simp_all [underlying, Result.andThen]
  simp [results, h, hp', asAddr, loadVar, hagg, Result.andThen, hc]
set_option maxRecDepth 100000 in
set_option maxHeartbeats 1000000 in
theorem has_anyd {B p c : Nat} {A : Option Addr} {L : List Rn} {x : Int} {w : World} (hS : SetAtd B p A c w L) (hl : L.length ≤ 1000000) :
    Calls Try.prog 107 #[.pointer (some ⟨p, 0, none⟩), .int .u16 x] w fun e w' => e = .returned (.bool (hasB L x)) ∧ Ext w w' := by
  obtain ⟨d, hd⟩ : ∃ d, hasB L x = d := ⟨_, rfl⟩
  have HD := Lib.hid hd
  rw [hd]
  clear hd
  refine (callsIn_wide (n := 0)).1 ?_
  refine callsIn_of_wp_marks Try.func107 rfl trivial ?_
  simp only [Try.ntmps107, List.size_toArray, List.length_cons, List.length_nil, Nat.reduceAdd, Nat.reduceSub, Array.replicate_succ, Array.replicate_zero, List.push_toArray, List.append_toArray, List.nil_append, List.cons_append]
  gi_wp2
  refine ⟨trivial, rfl, (callsIn_wide.2 (within_anyd (r := ⟨x, x⟩))).mono ?_⟩
  rintro e w' ⟨rfl, rfl⟩
  gi_wp2
  refine wpIn_cut (fun V => Ext w V ∧ V.heap.size = w.heap.size + 3 ∧ V.heap[w.heap.size]? = some (.cells #[.bool false] 4 (0, 0)) ∧ V.heap[w.heap.size + 1]? = some (.cells #[.pointer (some ⟨p, 0, none⟩)] 115 (0, 0)) ∧ V.heap[w.heap.size + 1 + 1]? = some (.cells #[.int .u16 x, .int .u16 x] 220 (0, 0)))
    ⟨(ext_alloc _ _).trans ((ext_alloc _ _).trans (ext_alloc _ _)), alloc3_atd _ _ _ _⟩ ?_
  rintro w1 ⟨hE1, hz1, b1, b2, b3⟩
  have hplt := (Array.getElem?_eq_some_iff.1 hS.hd).1
  have hrowlt : ∀ q, (Value.slice A L.length c).ownBlock = some q → q < w.heap.size := fun q hq => (World.ownsRow.lt hS.row q hq).2
  refine wpIn_rangeX (α := Rn) rfl (enters_of Try.func173 (by kernel_rfl) rfl)
    (within_seqd (p := p) (r := ⟨x, x⟩) (Dk := fun q => q = w.heap.size) b2 b3 (hS.ext hE1) hl (by omega) (by omega) (by omega) (fun q hq h => by have := hrowlt q hq; omega))
    (fun q h => h.elim) (fun q h => by omega) (fun _ => rfl)
    (fun pre V => Ext w V ∧ pre = [] ∧ V.heap[w.heap.size]? = some (.cells #[.bool false] 4 (0, 0)))
    (fun c pre V => c = .ret ∧ pre ≠ [] ∧ Ext w V ∧ V.heap[w.heap.size]? = some (.cells #[.bool true] 4 (0, 0))) ?hI ?hIx ?h0
    (fun y a' V => a' = { tmps := #[Value.pointer (some ⟨p, 0, none⟩), .int .u16 x, undef, undef, .pointer (some ⟨w.heap.size, 0, none⟩), .pointer (some ⟨p, 0, none⟩), .int .u16 x, .int .u16 x, .agg #[.int .u16 x, .int .u16 x],
      .func (.func 173) #[] #[.pointer (some ⟨w.heap.size + 1, 0, none⟩), .pointer (some ⟨w.heap.size + 1 + 1, 0, none⟩)], .agg #[.int .u16 y.lo, .int .u16 y.hi]], defers := [] })
    ?hAx ?assign ?body ?done ?stop
  case hI =>
    rintro s A' B' row ⟨x1, x2, x3⟩ hg hrw
    have hlow : ∀ q, row = some q → w.heap.size < q := fun q e => by
      rcases hrw q e with h | ⟨h, _⟩
      · exact h.elim
      · omega
    refine ⟨Below.grown x1 hg x1.size (fun q e => Nat.le_of_lt (hlow q e)), x2, ?_⟩
    exact (hg.block _ (Array.getElem?_eq_some_iff.1 x3).1 (fun e => by have := hlow _ e.symm; omega)).trans x3
  case hIx =>
    rintro cc s A' B' row ⟨x0, x2, x1, x3⟩ hg hrw
    have hlow : ∀ q, row = some q → w.heap.size < q := fun q e => by
      rcases hrw q e with h | ⟨h, _⟩
      · exact h.elim
      · omega
    refine ⟨x0, x2, Below.grown x1 hg x1.size (fun q e => Nat.le_of_lt (hlow q e)), ?_⟩
    exact (hg.block _ (Array.getElem?_eq_some_iff.1 x3).1 (fun e => by have := hlow _ e.symm; omega)).trans x3
  case h0 => exact ⟨hE1, rfl, b1⟩
  case hAx => exact fun x a' A' B' row h _ _ => h
  case assign =>
    intro l2 y V K hsz hK
    gi_wp2
    exact hK _ _ (Below.refl _ _) (by first | (simp; done) | go_simp)
  case body =>
    rintro l2 pre y a' V ⟨hE, hpre, hbv⟩ rfl hsp hsz
    have q0 := cell_of_row V w.heap.size 0 _ _ _ hbv
    have f0 := frozen_of_row V w.heap.size 0 _ _ hbv
    simp only [List.getElem?_toArray, List.getElem?_cons_zero] at q0
    have k1 := heap_setCell_same V w.heap.size 0 _ _ (.bool true) hbv
    have hgr : V.grownBy (V.setCell ⟨w.heap.size, 0, none⟩ (.bool true)) (some w.heap.size) := ⟨rfl, rfl, rfl, by simp [World.setCell], fun k hk hn => Below.heap_setCell V _ _ k (by rintro rfl; exact hn rfl)⟩
    have hEE : Ext w (V.setCell ⟨w.heap.size, 0, none⟩ (.bool true)) := ext_only hE hgr (Nat.le_refl _)
    have hXX : RoundX (fun q => q = w.heap.size) w1.heap.size V (V.setCell ⟨w.heap.size, 0, none⟩ (.bool true)) := Exc.of_grown hgr (fun q o h _ => by injection h with h; exact .inl h.symm)
    clear hbv hE hgr
    gi_wp2
    exact ⟨hXX, rfl, by simp, hEE, k1⟩
  case stop =>
    rintro E cc pre V hsp ⟨rfl, hne, hE, hbv⟩ hEs hKE
    have q0 := cell_of_row (V.putObj E (.deferred none)) w.heap.size 0 _ _ _ ((World.putObj_heap_other (show w.heap.size ≠ E by omega)).trans hbv)
    have hEE : Ext w (V.putObj E (.deferred none)) := ext_only hE (grownBy_putObj' V E _) (by omega)
    have hw : d = true := by
      rw [← HD.out]
      cases hb : hasB L x with
      | true => rfl
      | false =>
        obtain ⟨t, ht⟩ := hsp
        rw [(within_has L x).2 hb] at ht
        cases pre with
        | nil => exact absurd rfl hne
        | cons _ _ => simp at ht
    gi_wp2
    refine ⟨by simp, .inl ⟨_, _, rfl, run_takeDeferred hKE, ?_⟩⟩
    exact ⟨_, results_cell1d rfl _ _ w.heap.size _ _ rfl q0 Try.underlying4 rfl, by rw [hw]; rfl, hEE⟩
  case done =>
    rintro E xs V rfl ⟨hE, hnil, hbv⟩ hEs hKE
    have q0 := cell_of_row V w.heap.size 0 _ _ _ hbv
    have f0 := frozen_of_row V w.heap.size 0 _ _ hbv
    simp only [List.getElem?_toArray, List.getElem?_cons_zero] at q0
    have k1 := heap_setCell_same V w.heap.size 0 _ _ (.bool false) hbv
    have hgr : V.grownBy (V.setCell ⟨w.heap.size, 0, none⟩ (.bool false)) (some w.heap.size) := ⟨rfl, rfl, rfl, by simp [World.setCell], fun k hk hn => Below.heap_setCell V _ _ k (by rintro rfl; exact hn rfl)⟩
    have hKE2 := (hgr.block E (Array.getElem?_eq_some_iff.1 hKE).1 (fun e => by injection e with e; omega)).trans hKE
    have hEE : Ext w ((V.setCell ⟨w.heap.size, 0, none⟩ (.bool false)).putObj E (.deferred none)) := ext_only (ext_only hE hgr (Nat.le_refl _)) (grownBy_putObj' _ E _) (by omega)
    have k2 := cell_of_row ((V.setCell ⟨w.heap.size, 0, none⟩ (.bool false)).putObj E (.deferred none)) w.heap.size 0 _ _ _ ((World.putObj_heap_other (show w.heap.size ≠ E by omega)).trans k1)
    have hw : d = false := by rw [← HD.out]; exact (within_has L x).1 hnil
    clear hgr hbv k1
    gi_wp2
    refine ⟨by simp, .inl ⟨_, _, rfl, run_takeDeferred hKE2, ?_⟩⟩
    exact ⟨_, results_cell1d rfl _ _ w.heap.size _ _ rfl k2 Try.underlying4 rfl, by rw [hw]; rfl, hEE⟩
/-- A slice of numbers that can be read. -/
structure NLd (w : World) (A : Option Addr) (c : Nat) (l : List Int) : Prop where
  rd : 0 < l.length → ∃ b off, A = some ⟨b, off, none⟩ ∧ ∀ i z, l[i]? = some z → w.cell? ⟨b, off + i, none⟩ = some (.int .u16 z)
  le : l.length ≤ c
  bd : ∀ z ∈ l, 0 ≤ z ∧ z ≤ 65535
theorem NLd.at {w : World} {A : Option Addr} {c : Nat} {l : List Int} (h : NLd w A c l) {i : Nat} {z : Int} (hr : l[i]? = some z) : ∃ b off, A = some ⟨b, off, none⟩ ∧ i < c ∧ ∀ W, Ext w W → W.cell? ⟨b, off + i, none⟩ = some (.int .u16 z) := by
  have hi := (List.getElem?_eq_some_iff.1 hr).1
  obtain ⟨b, off, hA, hc⟩ := h.rd (by omega)
  exact ⟨b, off, hA, by have := h.le; omega, fun W hW => hW.cell (hc i z hr)⟩
/-- A number as a run. -/
def one1 (z : Int) : Rn := ⟨z, z⟩
set_option maxRecDepth 100000 in
set_option maxHeartbeats 1000000 in
theorem new_anyd {c : Nat} {A : Option Addr} {l : List Int} {w : World} (hr : NLd w A c l) (hl : l.length ≤ 100000) :
    Calls Try.prog 48 #[.slice A l.length c] w fun e w' => ∃ p A' c', e = .returned (.pointer (some ⟨p, 0, none⟩)) ∧ w.heap.size ≤ p ∧ SetAtd w.heap.size p A' c' w' ((l.map one1).foldl addL []) ∧ Ext w w' := by
  go_enter Try.func48, Try.ntmps48
  go_wp2
  have h0 : SetAtd w.heap.size w.heap.size none 0 (w.alloc (.cells #[.slice none 0 0] 205)) [] := ⟨heap_alloc_new _ _, World.ownsRow_nil _ _ _ _, trivial, fun r h => by cases h⟩
  go_loopw [10] (fun i wr => ∃ (k : Nat) (A' : Option Addr) (c' : Nat), k ≤ l.length ∧ i = .int .i64 k ∧ SetAtd w.heap.size w.heap.size A' c' wr (((l.map one1).take k).foldl addL []) ∧ Ext w wr) (fun i _ => l.length - (intOf i).toNat)
  case atStart => exact ⟨0, none, 0, Nat.zero_le _, rfl, h0, ext_alloc _ _⟩
  case round =>
    clear h0
    obtain ⟨k, A', c', hk, rfl, hS, hE⟩ := hrel
    by_cases hlt : k < l.length
    · obtain ⟨x, hx⟩ : ∃ x, l[k]? = some x := ⟨_, List.getElem?_eq_getElem hlt⟩
      obtain ⟨b, off, rfl, hkc, hcx⟩ := hr.at hx
      have q0 := hcx wr hE
      have hbx := hr.bd x (List.mem_of_getElem? hx)
      have hf : ((l.map one1).take (k + 1)).foldl addL [] = addL (((l.map one1).take k).foldl addL []) (one1 x) := by
        obtain ⟨h1, rfl⟩ := List.getElem?_eq_some_iff.1 hx
        rw [List.take_succ_eq_append_getElem (by rw [List.length_map]; exact h1), List.foldl_append, List.getElem_map]
        rfl
      have hlen := foldl_addL_len ((l.map one1).take k) []
      simp only [List.length_take, List.length_nil, List.length_map] at hlen
      have HF := Lib.hid hf
      clear hf hx hcx
      generalize ((l.map one1).take k).foldl addL [] = L at *
      have hsz := hE.size
      have HA := add_alld hS (lo := x) (hi := x) (by omega) ⟨hbx, hbx⟩ (Nat.le_refl _) hsz
      go_wp2_with fail
      refine HA.mono ?_
      rintro e w2 ⟨A3, c3, rfl, hS3, hX⟩
      have hE3 := hX.to_ext hE (fun q o h => by omega)
      have hS4 : SetAtd w.heap.size w.heap.size A3 c3 w2 (((l.map one1).take (k + 1)).foldl addL []) := by rw [HF.out]; exact hS3
      clear HA hX hS3
      go_wp2
      go_roundw
      case rel => exact ⟨k + 1, A3, c3, by omega, by go_num, hS4, hE3⟩
      case measure => simp [intOf]; omega
    · obtain rfl : k = l.length := by omega
      rw [List.take_of_length_le (by rw [List.length_map]; exact Nat.le_refl _)] at hS
      go_wp2
      go_ret
      exact ⟨_, _, _, rfl, Nat.le_refl _, hS, hE⟩
theorem rem_allFd {B p c : Nat} {A : Option Addr} {L : List Rn} {lo hi : Int} {w : World} (hS : SetAtd B p A c w L) (hl : L.length ≤ 1000000) (hb : Bdd ⟨lo, hi⟩) (hpB : B ≤ p) (hBw : B ≤ w.heap.size) :
    Calls Try.prog 106 #[.pointer (some ⟨p, 0, none⟩), .int .u16 lo, .int .u16 hi] w fun e w' => ∃ A' c', e = .returned (.int .i64 (remN L lo hi)) ∧ SetAtd B p A' c' w' (remA L lo hi) ∧ Exc (fun q _ => q = p) w w' ∧ (RowRd w.heap.size w' A' c' (remA L lo hi) ∨ (A' = A ∧ c' = c ∧ remA L lo hi = L)) := by
  by_cases h : lo ≤ hi
  · have e1 : remN L lo hi = (withinL L ⟨lo, hi⟩).foldl withZ 0 := if_pos h
    have e2 : remA L lo hi = remL L lo hi := if_pos h
    rw [e1, e2]
    exact (rem_anyFd hS hl hb hpB hBw h).mono fun e w' ⟨A', c', h1, h2, h3, h4⟩ => ⟨A', c', h1, h2, h3, .inl h4⟩
  · have e1 : remN L lo hi = 0 := if_neg h
    have e2 : remA L lo hi = L := if_neg h
    rw [e1, e2]
    refine (rem_noned h).mono ?_
    rintro e w' ⟨rfl, rfl⟩
    exact ⟨A, c, rfl, hS, exc_refl _ _, .inr ⟨rfl, rfl, rfl⟩⟩
theorem rem_alld {B p c : Nat} {A : Option Addr} {L : List Rn} {lo hi : Int} {w : World} (hS : SetAtd B p A c w L) (hl : L.length ≤ 1000000) (hb : Bdd ⟨lo, hi⟩) (hpB : B ≤ p) (hBw : B ≤ w.heap.size) :
    Calls Try.prog 106 #[.pointer (some ⟨p, 0, none⟩), .int .u16 lo, .int .u16 hi] w fun e w' => ∃ A' c', e = .returned (.int .i64 (remN L lo hi)) ∧ SetAtd B p A' c' w' (remA L lo hi) ∧ Exc (fun q _ => q = p) w w' := by
  by_cases h : lo ≤ hi
  · have e1 : remN L lo hi = (withinL L ⟨lo, hi⟩).foldl withZ 0 := if_pos h
    have e2 : remA L lo hi = remL L lo hi := if_pos h
    rw [e1, e2]
    exact rem_anyd hS hl hb hpB hBw h
  · have e1 : remN L lo hi = 0 := if_neg h
    have e2 : remA L lo hi = L := if_neg h
    rw [e1, e2]
    refine (rem_noned h).mono ?_
    rintro e w' ⟨rfl, rfl⟩
    exact ⟨A, c, rfl, hS, exc_refl _ _⟩
theorem lowest_anyd {B p c : Nat} {A : Option Addr} {L : List Rn} {w : World} (hS : SetAtd B p A c w L) (hl : L.length ≤ 1000000) :
    Calls Try.prog 109 #[.pointer (some ⟨p, 0, none⟩)] w fun e w' => e = .returned (.tuple #[.int .u16 (lowL L).1, .bool (lowL L).2]) ∧ w = w' := by
  have q1 := cell_of_row w p 0 _ _ _ hS.hd
  simp only [List.getElem?_toArray, List.getElem?_cons_zero] at q1
  cases L with
  | nil =>
    go_enter Try.func109, Try.ntmps109
    go_wp2
    refine bodyPost_ret (results_tmp2 rfl _ _ _) rfl ?_
    exact ⟨rfl, rfl⟩
  | cons x L =>
    obtain ⟨g, rfl, hlc, hBg, cx0, cx1⟩ := hS.row.at (k := 0) rfl
    have hc : 0 < c := by simp at hlc; omega
    have hne : ¬ ((x :: L).length : Int) = 0 := by simp; omega
    have hlp : 0 < (x :: L).length := by simp
    generalize hn : (x :: L).length = n at *
    have HN := Lib.hid hn
    clear hn
    rw [Nat.zero_mul] at cx0 cx1
    go_enter Try.func109, Try.ntmps109
    go_wp2
    refine bodyPost_ret (results_tmp2 rfl _ _ _) rfl ?_
    exact ⟨rfl, rfl⟩
theorem copy_anyd {B p c : Nat} {A : Option Addr} {L : List Rn} {w : World} (hS : SetAtd B p A c w L) (hl : L.length ≤ 1000000) :
    Calls Try.prog 159 #[.pointer (some ⟨p, 0, none⟩)] w fun e w' => ∃ q A' c', e = .returned (.pointer (some ⟨q, 0, none⟩)) ∧ w.heap.size ≤ q ∧ SetAtd w.heap.size q A' c' w' L ∧ Ext w w' := by
  go_enter Try.func159, Try.ntmps159
  go_wp2_with fail
  refine (runs_anyd hS hl).mono ?_
  rintro e w2 ⟨A', c', rfl, hR, hE⟩
  go_wp2
  go_ret
  exact ⟨_, A', c', rfl, hE.size, ⟨heap_alloc_new _ _, hR.ext (ext_alloc _ _), hS.wf, hS.bd⟩, hE.trans (ext_alloc _ _)⟩
end Go.Proofs.Ytffapgemacbdjaa
