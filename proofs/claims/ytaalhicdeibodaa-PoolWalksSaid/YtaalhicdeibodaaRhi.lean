/- Package runs, at int: Has, Lowest, New, Copy. No condition but the bounds of the kind and of the sizes. -/
import Derived.Test.YtaalhicdeibodaaRgi
namespace Go.Proofs.Ytaalhicdeibodaa
open Go.RowKit Go.Proofs Go.Shelf
set_option linter.unusedVariables false
attribute [local go_sem] Oper.semAt_some
theorem results_cell1i {P : Program} {fn : Func} {p : Tmp} {ty : TypeId} (h : fn.results = #[.cell p ty]) (tmps : Array Value) (w : World) (g : Nat) (v : Value) (d : TypeDesc)
    (hp : tmps.getD p undef = .pointer (some ⟨g, 0, none⟩)) (hc : w.cell? ⟨g, 0, none⟩ = some v) (hu : P.underlying ty = some d) (hd : (match d with | .struct _ | .array _ _ => true | _ => false) = false) :
    (results fn tmps).run P w = .ok v w := by
  have hp' : tmps[p]?.getD undef = .pointer (some ⟨g, 0, none⟩) := by simpa using hp
  have hagg : (isAgg ty).run P w = .ok false w := by
    simp only [isAgg]
    cases d <;> simp_all [underlying, Result.andThen]
  simp [results, h, hp', asAddr, loadVar, hagg, Result.andThen, hc]
/-- A slice of numbers that can be read. -/
structure NLi (w : World) (A : Option Addr) (c : Nat) (l : List Int) : Prop where
  rd : 0 < l.length → ∃ b off, A = some ⟨b, off, none⟩ ∧ ∀ i z, l[i]? = some z → w.cell? ⟨b, off + i, none⟩ = some (.int .i64 z)
  le : l.length ≤ c
  bd : ∀ z ∈ l, -9223372036854775808 ≤ z ∧ z ≤ 9223372036854775807
theorem NLi.at {w : World} {A : Option Addr} {c : Nat} {l : List Int} (h : NLi w A c l) {i : Nat} {z : Int} (hr : l[i]? = some z) : ∃ b off, A = some ⟨b, off, none⟩ ∧ i < c ∧ ∀ W, Ext w W → W.cell? ⟨b, off + i, none⟩ = some (.int .i64 z) := by
  have hi := (List.getElem?_eq_some_iff.1 hr).1
  obtain ⟨b, off, hA, hc⟩ := h.rd (by omega)
  exact ⟨b, off, hA, by have := h.le; omega, fun W hW => hW.cell (hc i z hr)⟩
/-- A number as a run. -/
def one1 (z : Int) : Rn := ⟨z, z⟩
set_option maxRecDepth 100000 in
set_option maxHeartbeats 1000000 in
theorem new_anyi {c : Nat} {A : Option Addr} {l : List Int} {w : World} (hr : NLi w A c l) (hl : l.length ≤ 100000) :
    Calls Try.prog 58 #[.slice A l.length c] w fun e w' => ∃ p A' c', e = .returned (.pointer (some ⟨p, 0, none⟩)) ∧ w.heap.size ≤ p ∧ SetAti w.heap.size p A' c' w' ((l.map one1).foldl addL []) ∧ Ext w w' := by
  go_enter Try.func58, Try.ntmps58
  go_wp2
  have h0 : SetAti w.heap.size w.heap.size none 0 (w.alloc (.cells #[.slice none 0 0] 92)) [] := ⟨heap_alloc_new _ _, World.ownsRow_nil _ _ _ _, trivial, fun r h => by cases h⟩
  go_loopw [10] (fun i wr => ∃ (k : Nat) (A' : Option Addr) (c' : Nat), k ≤ l.length ∧ i = .int .i64 k ∧ SetAti w.heap.size w.heap.size A' c' wr (((l.map one1).take k).foldl addL []) ∧ Ext w wr) (fun i _ => l.length - (intOf i).toNat)
  case atStart => exact ⟨0, none, 0, Nat.zero_le _, rfl, h0, ext_alloc _ _⟩
  case round =>
    clear h0
    obtain ⟨k, A', c', hk, rfl, hS, hE⟩ := hrel
    by_cases hlt : k < l.length
    · obtain ⟨x, hx⟩ : ∃ x, l[k]? = some x := ⟨_, List.getElem?_eq_getElem hlt⟩
      obtain ⟨b, off, rfl, hkc, hcx⟩ := hr.at hx
      have q0 := hcx wr hE
      have hbx := hr.bd x (List.mem_of_getElem? hx)
      have hf : ((l.map one1).take (k + 1)).foldl addL [] = addL (((l.map one1).take k).foldl addL []) (one1 x) := by
        obtain ⟨h1, rfl⟩ := List.getElem?_eq_some_iff.1 hx
        rw [List.take_succ_eq_append_getElem (by rw [List.length_map]; exact h1), List.foldl_append, List.getElem_map]
        rfl
      have hlen := foldl_addL_len ((l.map one1).take k) []
      simp only [List.length_take, List.length_nil, List.length_map] at hlen
      have HF := Lib.hid hf
      clear hf hx hcx
      generalize ((l.map one1).take k).foldl addL [] = L at *
      have hsz := hE.size
      have HA := add_alli hS (lo := x) (hi := x) (by omega) ⟨hbx, hbx⟩ (Nat.le_refl _) hsz
      go_wp2_with fail
      refine HA.mono ?_
      rintro e w2 ⟨A3, c3, rfl, hS3, hX⟩
      have hE3 := hX.to_ext hE (fun q o h => by omega)
      have hS4 : SetAti w.heap.size w.heap.size A3 c3 w2 (((l.map one1).take (k + 1)).foldl addL []) := by rw [HF.out]; exact hS3
      clear HA hX hS3
      go_wp2
      go_roundw
      case rel => exact ⟨k + 1, A3, c3, by omega, by go_num, hS4, hE3⟩
      case measure => simp [intOf]; omega
    · obtain rfl : k = l.length := by omega
      rw [List.take_of_length_le (by rw [List.length_map]; exact Nat.le_refl _)] at hS
      go_wp2
      go_ret
      exact ⟨_, _, _, rfl, Nat.le_refl _, hS, hE⟩
theorem rem_allFi {B p c : Nat} {A : Option Addr} {L : List Rn} {lo hi : Int} {w : World} (hS : SetAti B p A c w L) (hl : L.length ≤ 1000000) (hb : Bdi ⟨lo, hi⟩) (hpB : B ≤ p) (hBw : B ≤ w.heap.size) :
    Calls Try.prog 71 #[.pointer (some ⟨p, 0, none⟩), .int .i64 lo, .int .i64 hi] w fun e w' => ∃ A' c', e = .returned (.int .i64 (remN L lo hi)) ∧ SetAti B p A' c' w' (remA L lo hi) ∧ Exc (fun q _ => q = p) w w' ∧ (RowRi w.heap.size w' A' c' (remA L lo hi) ∨ (A' = A ∧ c' = c ∧ remA L lo hi = L)) := by
  by_cases h : lo ≤ hi
  · have e1 : remN L lo hi = (withinL L ⟨lo, hi⟩).foldl withZ 0 := if_pos h
    have e2 : remA L lo hi = remL L lo hi := if_pos h
    rw [e1, e2]
    exact (rem_anyFi hS hl hb hpB hBw h).mono fun e w' ⟨A', c', h1, h2, h3, h4⟩ => ⟨A', c', h1, h2, h3, .inl h4⟩
  · have e1 : remN L lo hi = 0 := if_neg h
    have e2 : remA L lo hi = L := if_neg h
    rw [e1, e2]
    refine (rem_nonei h).mono ?_
    rintro e w' ⟨rfl, rfl⟩
    exact ⟨A, c, rfl, hS, exc_refl _ _, .inr ⟨rfl, rfl, rfl⟩⟩
theorem rem_alli {B p c : Nat} {A : Option Addr} {L : List Rn} {lo hi : Int} {w : World} (hS : SetAti B p A c w L) (hl : L.length ≤ 1000000) (hb : Bdi ⟨lo, hi⟩) (hpB : B ≤ p) (hBw : B ≤ w.heap.size) :
    Calls Try.prog 71 #[.pointer (some ⟨p, 0, none⟩), .int .i64 lo, .int .i64 hi] w fun e w' => ∃ A' c', e = .returned (.int .i64 (remN L lo hi)) ∧ SetAti B p A' c' w' (remA L lo hi) ∧ Exc (fun q _ => q = p) w w' := by
  by_cases h : lo ≤ hi
  · have e1 : remN L lo hi = (withinL L ⟨lo, hi⟩).foldl withZ 0 := if_pos h
    have e2 : remA L lo hi = remL L lo hi := if_pos h
    rw [e1, e2]
    exact rem_anyi hS hl hb hpB hBw h
  · have e1 : remN L lo hi = 0 := if_neg h
    have e2 : remA L lo hi = L := if_neg h
    rw [e1, e2]
    refine (rem_nonei h).mono ?_
    rintro e w' ⟨rfl, rfl⟩
    exact ⟨A, c, rfl, hS, exc_refl _ _⟩
theorem lowest_anyi {B p c : Nat} {A : Option Addr} {L : List Rn} {w : World} (hS : SetAti B p A c w L) (hl : L.length ≤ 1000000) :
    Calls Try.prog 41 #[.pointer (some ⟨p, 0, none⟩)] w fun e w' => e = .returned (.tuple #[.int .i64 (lowL L).1, .bool (lowL L).2]) ∧ w = w' := by
  have q1 := cell_of_row w p 0 _ _ _ hS.hd
  simp only [List.getElem?_toArray, List.getElem?_cons_zero] at q1
  cases L with
  | nil =>
    go_enter Try.func41, Try.ntmps41
    go_wp2
    refine bodyPost_ret (results_tmp2 rfl _ _ _) rfl ?_
    exact ⟨rfl, rfl⟩
  | cons x L =>
    obtain ⟨g, rfl, hlc, hBg, cx0, cx1⟩ := hS.row.at (k := 0) rfl
    have hc : 0 < c := by simp at hlc; omega
    have hne : ¬ ((x :: L).length : Int) = 0 := by simp; omega
    have hlp : 0 < (x :: L).length := by simp
    generalize hn : (x :: L).length = n at *
    have HN := Lib.hid hn
    clear hn
    rw [Nat.zero_mul] at cx0 cx1
    go_enter Try.func41, Try.ntmps41
    go_wp2
    refine bodyPost_ret (results_tmp2 rfl _ _ _) rfl ?_
    exact ⟨rfl, rfl⟩
end Go.Proofs.Ytaalhicdeibodaa
