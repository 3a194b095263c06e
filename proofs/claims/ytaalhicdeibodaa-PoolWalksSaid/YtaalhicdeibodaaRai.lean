/- Package runs, at int: sets in memory, with, within. No condition but the bounds of the kind. -/
import Derived.Test.YtaalhicdeibodaaIter
import Derived.Test.YtaalhicdeibodaaRnp
import Derived.Test.YtaalhicdeibodaaRefa
import Derived.Test.YtaalhicdeibodaaMild
import Derived.Test.YtaalhicdeibodaaAparw
namespace Go.Proofs.Ytaalhicdeibodaa
open Go.RowKit Go.Proofs Go.Shelf
set_option linter.unusedVariables false
attribute [local go_sem] Oper.semAt_some
abbrev rci (r : Rn) : List Value := [.int .i64 r.lo, .int .i64 r.hi]
def Bdi (r : Rn) : Prop := (-9223372036854775808 ≤ r.lo ∧ r.lo ≤ 9223372036854775807) ∧ (-9223372036854775808 ≤ r.hi ∧ r.hi ≤ 9223372036854775807)
/-- A row of runs of the call's own. -/
def RowRi (B : Nat) (w : World) (A : Option Addr) (c : Nat) (L : List Rn) : Prop := w.ownsRow B 94 2 (.slice A L.length c) L.length (L.flatMap rci)
theorem rleni (L : List Rn) : (L.flatMap rci).length = L.length * 2 := by
  induction L with
  | nil => rfl
  | cons x l ih => rw [List.flatMap_cons, List.length_append, ih]; simp; omega
theorem rati : ∀ (L : List Rn) (k : Nat) (r : Rn), L[k]? = some r → (L.flatMap rci)[k * 2]? = some (.int .i64 r.lo) ∧ (L.flatMap rci)[k * 2 + 1]? = some (.int .i64 r.hi)
  | [], k, r, h => by simp at h
  | x :: l, 0, r, h => by
    simp only [List.getElem?_cons_zero, Option.some.injEq] at h
    subst h
    exact ⟨rfl, rfl⟩
  | x :: l, k + 1, r, h => by
    have := rati l k r (by simpa using h)
    rw [List.flatMap_cons]
    rw [show (k + 1) * 2 = (rci x).length + k * 2 by simp; omega, show (rci x).length + k * 2 + 1 = (rci x).length + (k * 2 + 1) by omega]
    rw [List.getElem?_append_right (by omega), List.getElem?_append_right (by omega)]
    simpa using this
theorem RowRi.at {B : Nat} {w : World} {A : Option Addr} {c : Nat} {L : List Rn} (h : RowRi B w A c L) {k : Nat} {r : Rn} (hr : L[k]? = some r) : ∃ g, A = some ⟨g, 0, none⟩ ∧ L.length ≤ c ∧ B ≤ g ∧ w.cell? ⟨g, k * 2, none⟩ = some (.int .i64 r.lo) ∧ w.cell? ⟨g, k * 2 + 1, none⟩ = some (.int .i64 r.hi) := by
  have hk := (List.getElem?_eq_some_iff.1 hr).1
  rcases h.2 with ⟨hv, h0⟩ | ⟨g, cap, cur, hv, hb, hg, hle, _⟩
  · omega
  · injection hv with h1 h2 h3
    subst h1 h3
    obtain ⟨a1, a2⟩ := rati L k r hr
    refine ⟨g, rfl, hle, hb, ?_, ?_⟩
    · rw [World.ownsRow.cellAt h _ (by omega), a1]
    · rw [World.ownsRow.cellAt h _ (by omega), a2]
theorem RowRi.ext {B : Nat} {w w' : World} {A : Option Addr} {c : Nat} {L : List Rn} (h : RowRi B w A c L) (he : Ext w w') : RowRi B w' A c L := by
  refine ⟨h.1, ?_⟩
  rcases h.2 with h0 | ⟨g, cap, cur, hv, hb, hg, r⟩
  · exact .inl h0
  · exact .inr ⟨g, cap, cur, hv, hb, he.blk hg, r⟩
theorem RowRi.round {B C : Nat} {Dk : Nat → Prop} {w w' : World} {A : Option Addr} {c : Nat} {L : List Rn} (h : RowRi B w A c L) (he : RoundX Dk C w w') (hd : ∀ q, (Value.slice A L.length c).ownBlock = some q → ¬ Dk q) : RowRi B w' A c L := by
  refine ⟨h.1, ?_⟩
  rcases h.2 with h0 | ⟨g, cap, cur, hv, hb, hg, r⟩
  · exact .inl h0
  · exact .inr ⟨g, cap, cur, hv, hb, he.cells hg (hd g (by rw [hv]; rfl)), r⟩
/-- A set in memory: its block p holds the header of its row. -/
structure SetAti (B p : Nat) (A : Option Addr) (c : Nat) (w : World) (L : List Rn) : Prop where
  hd : w.heap[p]? = some (.cells #[.slice A L.length c] 92 (0, 0))
  row : RowRi B w A c L
  wf : WfR L
  bd : ∀ r ∈ L, Bdi r
theorem SetAti.ext {B p c : Nat} {A : Option Addr} {w w' : World} {L : List Rn} (h : SetAti B p A c w L) (he : Ext w w') : SetAti B p A c w' L := ⟨he.blk h.hd, h.row.ext he, h.wf, h.bd⟩
theorem SetAti.round {B p c C : Nat} {Dk : Nat → Prop} {A : Option Addr} {w w' : World} {L : List Rn} (h : SetAti B p A c w L) (he : RoundX Dk C w w') (hp : ¬ Dk p) (hd : ∀ q, (Value.slice A L.length c).ownBlock = some q → ¬ Dk q) : SetAti B p A c w' L :=
  ⟨he.cells h.hd hp, h.row.round he hd, h.wf, h.bd⟩
theorem with_anyi {n : Int} {r : Rn} {w : World} (hb : Bdi r) (hr : r.lo ≤ r.hi) (hn : 0 ≤ n ∧ n ≤ 9223372036854775807) :
    Calls Try.prog 69 #[.int .u64 n, .agg #[.int .i64 r.lo, .int .i64 r.hi]] w fun e w' => e = .returned (.int .u64 (withZ n r)) ∧ Ext w w' := by
  obtain ⟨lo, hi⟩ := r
  obtain ⟨⟨b1, b2⟩, b3, b4⟩ := hb
  simp only at b1 b2 b3 b4 hr
  obtain ⟨z, hz⟩ : ∃ z, withZ n ⟨lo, hi⟩ = z := ⟨_, rfl⟩
  rw [hz]
  unfold withZ at hz
  simp only at hz
  have HZ := Lib.hid hz
  clear hz
  have hw : IntKind.u64.wrap (IntKind.u64.wrap hi - IntKind.u64.wrap lo) = hi - lo := by
    simp only [IntKind.wrap_u64]; omega
  go_enter Try.func69, Try.ntmps69
  by_cases h : 9223372036854775807 - n ≤ hi - lo
  · go_wp2
    go_ret
    refine ⟨ret_int ?_, ext_alloc _ _⟩
    rw [← HZ.out, if_pos h]
  · go_wp2
    go_ret
    refine ⟨ret_int ?_, ext_alloc _ _⟩
    rw [← HZ.out, if_neg (by omega)]
theorem alloc4_ati (w : World) (a b c d : Obj) : ((((w.alloc a).alloc b).alloc c).alloc d).heap.size = w.heap.size + 4 ∧ ((((w.alloc a).alloc b).alloc c).alloc d).heap[w.heap.size]? = some a ∧ ((((w.alloc a).alloc b).alloc c).alloc d).heap[w.heap.size + 1]? = some b ∧ ((((w.alloc a).alloc b).alloc c).alloc d).heap[w.heap.size + 1 + 1]? = some c ∧ ((((w.alloc a).alloc b).alloc c).alloc d).heap[w.heap.size + 1 + 1 + 1]? = some d := by
  have e : ((((w.alloc a).alloc b).alloc c).alloc d).heap = (((w.heap.push a).push b).push c).push d := rfl
  rw [e]
  refine ⟨by simp, ?_, ?_, ?_, ?_⟩
  · rw [Array.getElem?_push_lt (by simp <;> omega), Array.getElem_push_lt (by simp <;> omega), Array.getElem_push_lt (by simp), Array.getElem_push_eq]
  · rw [Array.getElem?_push_lt (by simp <;> omega), Array.getElem_push_lt (by simp)]
    have := Array.getElem_push_eq (xs := w.heap.push a) (x := b)
    simpa using this
  · rw [Array.getElem?_push_lt (by simp)]
    have := Array.getElem_push_eq (xs := (w.heap.push a).push b) (x := c)
    simpa using this
  · have := Array.getElem?_push_size (xs := ((w.heap.push a).push b).push c) (x := d)
    simpa using this
theorem within_anyi {p : Option Addr} {r : Rn} {w : World} : Calls Try.prog 73 #[.pointer p, .agg #[.int .i64 r.lo, .int .i64 r.hi]] w fun e w' =>
    e = .returned (.func (.func 75) #[] #[.pointer (some ⟨w.heap.size, 0, none⟩), .pointer (some ⟨w.heap.size + 1, 0, none⟩)]) ∧
    w' = (w.alloc (.cells #[.pointer p] 70)).alloc (.cells #[.int .i64 r.lo, .int .i64 r.hi] 94) := by
  have hmf : ∀ (fn : Fn) (first cap : Array Value) (w : World), (Instr.makeFunc fn first cap).run Try.prog w = .ok (.func fn first cap) w := fun _ _ _ _ => rfl
  go_enter Try.func73, Try.ntmps73
  go_wp2
  go_ret
  exact ⟨rfl, rfl⟩
theorem setCell_exc (w : World) (g i : Nat) (v : Value) : Exc (fun q _ => q = g) w (w.setCell ⟨g, i, none⟩ v) :=
  ⟨rfl, rfl, rfl, by simp [World.setCell], fun k o hk hn => (Below.heap_setCell w _ v k (fun e => hn e)).trans hk⟩
theorem wpIn_cut {P : Program} {c : Code} {a : Act} {w : World} {Q : Exit → Act → World → Prop} {F : Fence} {n : Nat} (R : World → Prop) (hR : R w) (h : ∀ W, R W → c.wpIn F n P Q a W) : c.wpIn F n P Q a w := h w hR
theorem withinL_succ {L : List Rn} {k : Nat} {x r : Rn} (h : L[k]? = some x) : withinL (L.take (k + 1)) r = withinL (L.take k) r ++ (if (clipR r x).lo ≤ (clipR r x).hi then [clipR r x] else []) := by
  obtain ⟨h1, rfl⟩ := List.getElem?_eq_some_iff.1 h
  unfold withinL
  rw [List.take_succ_eq_append_getElem h1, List.map_append, List.filter_append]
  congr 1
  simp only [List.map_cons, List.map_nil, List.filter_cons, List.filter_nil, decide_eq_true_eq]
theorem withinL_prefix (L : List Rn) (k : Nat) (r : Rn) : withinL (L.take k) r <+: withinL L r := by
  refine ⟨withinL (L.drop k) r, ?_⟩
  unfold withinL
  rw [← List.filter_append, ← List.map_append, List.take_append_drop]
abbrev encRi (r : Rn) : Array Value := #[.agg #[.int .i64 r.lo, .int .i64 r.hi]]
set_option maxRecDepth 100000 in
set_option maxHeartbeats 1000000 in
theorem within_seqi {B p sb rb c : Nat} {A : Option Addr} {L : List Rn} {r : Rn} {w : World} {Dk : Nat → Prop} (hs : w.heap[sb]? = some (.cells #[.pointer (some ⟨p, 0, none⟩)] 70 (0, 0))) (hr : w.heap[rb]? = some (.cells #[.int .i64 r.lo, .int .i64 r.hi] 94 (0, 0)))
    (hS : SetAti B p A c w L) (hl : L.length ≤ 1000000) (hsb : ¬ Dk sb) (hrb : ¬ Dk rb) (hp : ¬ Dk p) (hd : ∀ q, (Value.slice A L.length c).ownBlock = some q → ¬ Dk q) :
    SeqX Try.prog 75 #[.pointer (some ⟨sb, 0, none⟩), .pointer (some ⟨rb, 0, none⟩)] encRi (fun _ => False) Dk (fun xs => xs = withinL L r) (fun pre => pre <+: withinL L r) w := by
  intro l J Jx W hW hJ hJx hY h0
  replace hs := hW.cells hs (fun h => h)
  replace hr := hW.cells hr (fun h => h)
  replace hS := hS.round hW (fun h => h) (fun q _ h => h)
  clear hW
  have q0 := cell_of_row W sb 0 _ _ _ hs
  have q1 := cell_of_row W p 0 _ _ _ hS.hd
  refine callsIn_of_wp Try.func75 rfl trivial ?_ rfl
  simp only [Try.ntmps75, List.size_toArray, List.length_cons, List.length_nil, Nat.reduceAdd, Nat.reduceSub, Array.replicate_succ, Array.replicate_zero, List.push_toArray, List.append_toArray, List.nil_append, List.cons_append]
  gi_wp2
  clear q0 q1
  gi_loopw [11] (fun i wr => ∃ k : Nat, k ≤ L.length ∧ i = .int .i64 k ∧ J (withinL (L.take k) r) wr ∧ RoundX Dk W.heap.size W wr) (fun i _ => L.length - (intOf i).toNat)
  case atStart => exact ⟨0, Nat.zero_le _, rfl, h0, RoundX.refl _ _ _⟩
  case round =>
    obtain ⟨k, hk, rfl, hJs, hX⟩ := hrel
    by_cases hlt : k < L.length
    · obtain ⟨x, hx⟩ : ∃ x, L[k]? = some x := ⟨_, List.getElem?_eq_getElem hlt⟩
      obtain ⟨g, rfl, hlc, hBg, c0, c1⟩ := (hS.row.round hX hd).at hx
      have hkc : k < c := by omega
      have hrx := hX.cells hr hrb
      have HX := Lib.hid hx
      clear hx
      gi_wp2
      refine wpIn_cut (fun W' => Ext wr W' ∧ W'.heap[wr.heap.size]? = some (.cells #[.int .i64 x.lo, .int .i64 x.hi] 94 (0, 0))) ⟨ext_alloc _ _, heap_alloc_new _ _⟩ ?_
      rintro w1 ⟨hE1, hb⟩
      have hbs : wr.heap.size < w1.heap.size := (Array.getElem?_eq_some_iff.1 hb).1
      have hrlt : rb < wr.heap.size := (Array.getElem?_eq_some_iff.1 hrx).1
      refine wpIn_wide.2 (wp_region_rg (Exc fun q _ => q = wr.heap.size) (rel_exc _) (fun W => W.heap[wr.heap.size]? = some (.cells #[.int .i64 x.lo, .int .i64 x.hi] 94 (0, 0))) [0, 1, 2, 3, 4, 5, 6, 7, 8, 9, 10, 11, 12, 13] (fun _ => none) (fun i => match i with
        | 11 => some fun _ _ W => W.heap[wr.heap.size]? = some (.cells #[.int .i64 (max x.lo r.lo), .int .i64 x.hi] 94 (0, 0))
        | 13 => some fun _ _ W => W.heap[wr.heap.size]? = some (.cells #[.int .i64 (max x.lo r.lo), .int .i64 (min x.hi r.hi)] 94 (0, 0))
        | _ => none) (fun i => match i with | 1 => true | 6 => true | _ => false) (by kernel_rfl) (by kernel_rfl) (fun _ _ h he => he.blk h) hb (fun W N hW hF0 hN => ?_))
      have hEW : Exc (fun q _ => q = wr.heap.size) w1 W := Exc.of_ext hW
      have hm1 : (if x.lo < r.lo then r.lo else x.lo) = max x.lo r.lo := by split <;> omega
      have hm2 : (if r.hi < x.hi then r.hi else x.hi) = min x.hi r.hi := by split <;> omega
      have e0 : ∀ w', Ext W w' → w'.cell? ⟨wr.heap.size, 0, none⟩ = some (.int .i64 x.lo) := fun w' h => cell_of_row _ _ _ _ _ _ ((hW.trans h).blk hb)
      have e1 : ∀ w', Ext W w' → w'.cell? ⟨wr.heap.size, 1, none⟩ = some (.int .i64 x.hi) := fun w' h => cell_of_row _ _ _ _ _ _ ((hW.trans h).blk hb)
      have e2 : ∀ w', Exc (fun q _ => q = wr.heap.size) W w' → w'.cell? ⟨rb, 0, none⟩ = some (.int .i64 r.lo) := fun w' h => cell_of_row _ _ _ _ _ _ ((hEW.trans h).blk (hE1.blk hrx) (by omega))
      have e3 : ∀ w', Exc (fun q _ => q = wr.heap.size) W w' → w'.cell? ⟨rb, 1, none⟩ = some (.int .i64 r.hi) := fun w' h => cell_of_row _ _ _ _ _ _ ((hEW.trans h).blk (hE1.blk hrx) (by omega))
      repeat (first | (apply wpR_one; (case ho => (simp only [List.getElem?_toArray, List.getElem?_cons_succ, List.getElem?_cons_zero]; try exact rfl)); (case hw => rfl); (case hl => rfl); (case hsp => rfl); (case he => rfl); (case hv => (intro w' hw'; (try (have hw2 := Ext.trans hEW hw')); (try (have hw3 := Exc.trans hEW hw')); (try (have hw4 := Exk.trans hEW hw')); (try (have hw5 := Mrk.trans hEW hw')); go_simp; exact rfl)); (case hw0 => (first | exact Below.refl _ _ | exact Exc.of_ext (Below.refl _ _) | exact Exk.of_ext (Below.refl _ _) | exact Mrk.of_ext (Below.refl _ _))); simp only [Act.put, List.setIfInBounds_toArray, List.set_cons_succ, List.set_cons_zero]) | (apply wpR_early; (case ho => (simp only [List.getElem?_toArray, List.getElem?_cons_succ, List.getElem?_cons_zero]; try exact rfl)); (case hw => rfl); (case hl => rfl); (case hsp => rfl); (case he => rfl); (case hv => (intro w' hw'; (try have hw2 := Ext.trans hEW hw'); go_simp; exact rfl)); simp only [Act.put, List.setIfInBounds_toArray, List.set_cons_succ, List.set_cons_zero]) | (apply wpR_pass; (case ho => (simp only [List.getElem?_toArray, List.getElem?_cons_succ, List.getElem?_cons_zero]; try exact rfl)); (case hw => rfl); (case hl => rfl); simp only [Act.put, List.setIfInBounds_toArray, List.set_cons_succ, List.set_cons_zero]))
      refine wpR_late (by ((simp only [List.getElem?_toArray, List.getElem?_cons_succ, List.getElem?_cons_zero]; try exact rfl))) _ rfl rfl (fun V v => fun _ _ h he => he.blk h) (fun V V' h => rfl) (fun w' hw' hK hF => ?_) (fun v hv => ?_)
      · have hF2 : w'.heap[wr.heap.size]? = some (.cells #[.int .i64 x.lo, .int .i64 x.hi] 94 (0, 0)) := hF
        have c4 := cell_of_row w' wr.heap.size 0 _ _ _ hF2
        have f4 := frozen_of_row w' wr.heap.size 0 _ _ hF2
        have hb := heap_setCell_same w' wr.heap.size 0 _ _ (.int .i64 (max x.lo r.lo)) hF2
        clear hF hF2 e0 e1 e2 e3
        unfold opAt
        go_simp
        exact ⟨undef, rfl, setCell_exc _ _ _ _, hb⟩
      clear hv
      simp only [Act.put, List.setIfInBounds_toArray, List.set_cons_succ, List.set_cons_zero]
      repeat (first | (apply wpR_one; (case ho => (simp only [List.getElem?_toArray, List.getElem?_cons_succ, List.getElem?_cons_zero]; try exact rfl)); (case hw => rfl); (case hl => rfl); (case hsp => rfl); (case he => rfl); (case hv => (intro w' hw'; (try (have hw2 := Ext.trans hEW hw')); (try (have hw3 := Exc.trans hEW hw')); (try (have hw4 := Exk.trans hEW hw')); (try (have hw5 := Mrk.trans hEW hw')); go_simp; exact rfl)); (case hw0 => (first | exact Below.refl _ _ | exact Exc.of_ext (Below.refl _ _) | exact Exk.of_ext (Below.refl _ _) | exact Mrk.of_ext (Below.refl _ _))); simp only [Act.put, List.setIfInBounds_toArray, List.set_cons_succ, List.set_cons_zero]) | (apply wpR_early; (case ho => (simp only [List.getElem?_toArray, List.getElem?_cons_succ, List.getElem?_cons_zero]; try exact rfl)); (case hw => rfl); (case hl => rfl); (case hsp => rfl); (case he => rfl); (case hv => (intro w' hw'; (try have hw2 := Ext.trans hEW hw'); go_simp; exact rfl)); simp only [Act.put, List.setIfInBounds_toArray, List.set_cons_succ, List.set_cons_zero]) | (apply wpR_pass; (case ho => (simp only [List.getElem?_toArray, List.getElem?_cons_succ, List.getElem?_cons_zero]; try exact rfl)); (case hw => rfl); (case hl => rfl); simp only [Act.put, List.setIfInBounds_toArray, List.set_cons_succ, List.set_cons_zero]))
      refine wpR_late (by ((simp only [List.getElem?_toArray, List.getElem?_cons_succ, List.getElem?_cons_zero]; try exact rfl))) _ rfl rfl (fun V v => fun _ _ h he => he.blk h) (fun V V' h => rfl) (fun w' hw' hK hF => ?_) (fun v hv => ?_)
      · have hF2 : w'.heap[wr.heap.size]? = some (.cells #[.int .i64 (max x.lo r.lo), .int .i64 x.hi] 94 (0, 0)) := hF
        have c4 := cell_of_row w' wr.heap.size 1 _ _ _ hF2
        have f4 := frozen_of_row w' wr.heap.size 1 _ _ hF2
        have hb := heap_setCell_same w' wr.heap.size 1 _ _ (.int .i64 (min x.hi r.hi)) hF2
        clear hF hF2 e0 e1 e2 e3
        unfold opAt
        go_simp
        exact ⟨undef, rfl, setCell_exc _ _ _ _, hb⟩
      clear hv
      simp only [Act.put, List.setIfInBounds_toArray, List.set_cons_succ, List.set_cons_zero]
      apply wpR_nil
      apply hN
      intro w2 hE2 hK hF
      have hb2 : w2.heap[wr.heap.size]? = some (.cells #[.int .i64 (max x.lo r.lo), .int .i64 (min x.hi r.hi)] 94 (0, 0)) := hF
      have hE3 := (hEW.trans hE2).to_ext hE1 (fun k _ hk => by omega)
      have hJ2 := hJ _ _ _ none hJs (grown_ext hE3) (fun r e => by cases e)
      have hX2 := hX.trans (RoundX.of_ext hE3)
      have c5 := cell_of_row w2 wr.heap.size 0 _ _ _ hb2
      have c6 := cell_of_row w2 wr.heap.size 1 _ _ _ hb2
      simp only [List.getElem?_toArray, List.getElem?_cons_zero, List.getElem?_cons_succ] at c5 c6
      clear hm1 hm2 hK hN hF hJs hX hE3 hE2 hEW hW hE1 hb hb2 e0 e1 e2 e3 c0 c1 hF0
      have hws := withinL_succ (r := r) HX.out
      unfold clipR at hws
      simp only at hws
      have hpre := withinL_prefix L (k + 1) r
      rw [hws] at hpre
      have HW := Lib.hid hws
      clear hws
      by_cases hc : max x.lo r.lo ≤ min x.hi r.hi
      · have hc2 := Lib.hid hc
        have HP : Hid ((withinL (L.take k) r) ++ [⟨max x.lo r.lo, min x.hi r.hi⟩] = withinL (L.take (k + 1)) r) := Lib.hid (by rw [HW.out, if_pos hc])
        rw [if_pos hc] at hpre
        obtain ⟨fn, tmps, assign, body, hy, hR⟩ := hY (withinL (L.take k) r) ⟨max x.lo r.lo, min x.hi r.hi⟩ w2 hJ2 hpre
        gi_wp2
        refine ⟨rfl, hR.mono ?_⟩
        rintro e W3 (⟨rfl, hJ3, hk3⟩ | ⟨rfl, hJx3, hk3⟩)
        · rw [HP.out] at hJ3
          have hX3 := hX2.trans hk3
          gi_wp2
          go_roundw
          case rel => exact ⟨k + 1, by omega, by go_num, hJ3, hX3⟩
          case measure => simp [intOf]; omega
        · gi_wp2
          refine bodyPost_ret (results_none rfl _ _ _) rfl ?_
          exact ⟨⟨_, rfl⟩, .inr ⟨_, hpre, hJx3⟩⟩
      · have HP : Hid (withinL (L.take k) r = withinL (L.take (k + 1)) r) := Lib.hid (by rw [HW.out, if_neg hc, List.append_nil])
        rw [HP.out] at hJ2
        gi_wp2
        refine ⟨fun _ h => (by cases h), ?_⟩
        gi_wp2
        go_roundw
        case rel => exact ⟨k + 1, by omega, by go_num, hJ2, hX2⟩
        case measure => simp [intOf]; omega
    · obtain rfl : k = L.length := by omega
      rw [List.take_length] at hJs
      gi_wp2
      go_end0
      exact ⟨⟨_, rfl⟩, .inl ⟨_, rfl, hJs⟩⟩
end Go.Proofs.Ytaalhicdeibodaa
