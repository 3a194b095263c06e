/- The walk of RunsMeaning. No condition but that what comes in lies in memory. -/
import Derived.Test.YtffapgemacbdjaaMeant
namespace Go.Proofs.Ytffapgemacbdjaa
open Go.RowKit Go.Proofs Go.Shelf
set_option linter.unusedVariables false
attribute [local go_sem] Oper.semAt_some
structure Stp where
  lo : Int
  hi : Int
  gone : Bool
def BdS (r : Stp) : Prop := (0 ≤ r.lo ∧ r.lo ≤ 255) ∧ (0 ≤ r.hi ∧ r.hi ≤ 255)
/-- A slice of steps that can be read. -/
structure STL (w : World) (A : Option Addr) (c : Nat) (l : List Stp) : Prop where
  rd : 0 < l.length → ∃ b off, A = some ⟨b, off, none⟩ ∧ ∀ i r, l[i]? = some r → w.cell? ⟨b, off + i * 3, none⟩ = some (.int .u8 r.lo) ∧ w.cell? ⟨b, off + i * 3 + 1, none⟩ = some (.int .u8 r.hi) ∧ w.cell? ⟨b, off + i * 3 + 2, none⟩ = some (.bool r.gone)
  le : l.length ≤ c
  cap : c ≤ 9223372036854775807
  bd : ∀ r ∈ l, BdS r
theorem STL.take {w : World} {A : Option Addr} {c : Nat} {l : List Stp} (h : STL w A c l) (k : Nat) : STL w A c (l.take k) :=
  ⟨fun hn => by
    obtain ⟨b, off, hA, hc⟩ := h.rd (by rw [List.length_take] at hn; omega)
    exact ⟨b, off, hA, fun i r hr => hc i r (by rw [List.getElem?_take] at hr; split at hr <;> simp_all)⟩, by have := h.le; simp; omega, h.cap, fun r hr => h.bd r (List.mem_of_mem_take hr)⟩
theorem STL.at {w : World} {A : Option Addr} {c : Nat} {l : List Stp} (h : STL w A c l) {i : Nat} {r : Stp} (hr : l[i]? = some r) : ∃ b off, A = some ⟨b, off, none⟩ ∧ i < c ∧ ∀ W, Ext w W → W.cell? ⟨b, off + i * 3, none⟩ = some (.int .u8 r.lo) ∧ W.cell? ⟨b, off + i * 3 + 1, none⟩ = some (.int .u8 r.hi) ∧ W.cell? ⟨b, off + i * 3 + 2, none⟩ = some (.bool r.gone) := by
  have hi := (List.getElem?_eq_some_iff.1 hr).1
  obtain ⟨b, off, hA, hc⟩ := h.rd (by omega)
  exact ⟨b, off, hA, by have := h.le; omega, fun W hW => ⟨hW.cell (hc i r hr).1, hW.cell (hc i r hr).2.1, hW.cell (hc i r hr).2.2⟩⟩
/-- The bits while a step's numbers are gone over, as far as j. -/
def bitsJ (L : List Rn) (lo j : Nat) (g : Bool) : Nat → Bool := fun i => if lo ≤ i ∧ i < j then !g else hasB L i
theorem bitsJ_start (L : List Rn) (lo : Nat) (g : Bool) : cellsB (bitsJ L lo lo g) = cellsB (bitsL L) :=
  cellsB_ext (fun i _ => by unfold bitsJ bitsL; rw [if_neg (by omega)])
theorem bitsJ_turn (L : List Rn) {lo j : Nat} (g : Bool) (h : lo ≤ j) : (cellsB (bitsJ L lo j g)).setIfInBounds j (.bool (!g)) = cellsB (bitsJ L lo (j + 1) g) := by
  rw [cellsB_set]
  refine cellsB_ext (fun i _ => ?_)
  unfold bitsJ
  by_cases h1 : i = j
  · subst h1
    rw [if_pos rfl, if_pos (by omega)]
  · rw [if_neg h1]
    by_cases h2 : lo ≤ i ∧ i < j
    · rw [if_pos h2, if_pos (by omega)]
    · rw [if_neg h2, if_neg (by omega)]
theorem bitsJ_keep (L : List Rn) {lo j : Nat} (g : Bool) (h : lo ≤ j) (hb : hasB L j = !g) : cellsB (bitsJ L lo (j + 1) g) = cellsB (bitsJ L lo j g) := by
  refine cellsB_ext (fun i _ => ?_)
  unfold bitsJ
  by_cases h1 : i = j
  · subst h1
    rw [if_pos (by omega), if_neg (by omega), hb]
  · by_cases h2 : lo ≤ i ∧ i < j
    · rw [if_pos h2, if_pos (by omega)]
    · rw [if_neg h2, if_neg (by omega)]
/-- What a step makes of a set. -/
def stepL (L : List Rn) (s : Stp) : List Rn := if s.gone then remA L s.lo s.hi else addL L ⟨s.lo, s.hi⟩
def stepN (L : List Rn) (s : Stp) : Int := if s.gone then remN L s.lo s.hi else addN L ⟨s.lo, s.hi⟩
theorem step_wf {L : List Rn} (hw : WfR L) (s : Stp) : WfR (stepL L s) := by
  unfold stepL
  split
  · unfold remA
    split
    · exact (remL_ok hw _ _ ‹_›).1
    · exact hw
  · exact (addL_ok hw _).1
theorem step_inb {L : List Rn} (hw : WfR L) (hb : InB 0 256 L) {s : Stp} (h : BdS s) : InB 0 256 (stepL L s) := by
  obtain ⟨⟨a1, a2⟩, a3, a4⟩ := h
  refine wf_inb (step_wf hw s) (fun y hy => ?_)
  unfold stepL at hy
  split at hy
  · unfold remA at hy
    split at hy
    · exact inb_mem hb (((remL_ok hw _ _ ‹_›).2 y).1 hy).1
    · exact inb_mem hb hy
  · rcases ((addL_ok hw _).2 y).1 hy with hy | hy
    · exact inb_mem hb hy
    · simp only at hy; omega
theorem step_bits {L : List Rn} (hw : WfR L) {lo hi : Nat} (g : Bool) (j : Nat) (hj : (lo ≤ hi ∧ j = hi + 1) ∨ (hi < lo ∧ j = lo)) : cellsB (bitsJ L lo j g) = cellsB (bitsL (stepL L ⟨lo, hi, g⟩)) := by
  refine cellsB_ext (fun i _ => ?_)
  unfold bitsJ bitsL stepL
  cases g with
  | false =>
    simp only [Bool.false_eq_true, if_false, Bool.not_false]
    rw [add_bit hw]
    by_cases h : lo ≤ i ∧ i < j
    · rw [if_pos h, if_pos (by omega)]
    · rw [if_neg h, if_neg (by omega)]
  | true =>
    simp only [if_true, Bool.not_true]
    unfold remA
    by_cases hle : (lo : Int) ≤ (hi : Int)
    · rw [if_pos hle, rem_bit hw hle]
      by_cases h : lo ≤ i ∧ i < j
      · rw [if_pos h, if_pos (by omega)]
      · rw [if_neg h, if_neg (by omega)]
    · rw [if_neg hle, if_neg (by omega)]
theorem step_num {L : List Rn} (hw : WfR L) {lo hi : Nat} (g : Bool) (hh : hi < 256) (j : Nat) (hj : (lo ≤ hi ∧ j = hi + 1) ∨ (hi < lo ∧ j = lo)) : stepN L ⟨lo, hi, g⟩ = (numC (fun x => hasB L x == g) lo (j - lo) : Int) := by
  unfold stepN
  rcases hj with ⟨h1, rfl⟩ | ⟨h1, rfl⟩
  · have e : ((hi : Int) + 1 - lo).toNat = hi + 1 - lo := by omega
    cases g with
    | false =>
      simp only [Bool.false_eq_true, if_false]
      unfold addN
      rw [if_pos (by simp only; omega), add_ones hw (by omega) (by omega), e]
    | true =>
      simp only [if_true]
      unfold remN
      rw [if_pos (by omega), rem_ones hw (by omega) (by omega), e]
  · rw [Nat.sub_self]
    cases g with
    | false =>
      simp only [Bool.false_eq_true, if_false]
      unfold addN
      rw [if_neg (by simp only; omega)]
      rfl
    | true =>
      simp only [if_true]
      unfold remN
      rw [if_neg (by omega)]
      rfl
theorem zeroB : (Try.prog.info? 36).map (fun i => (i.zero, i.size)) = some (some (.agg (cellsB fun _ => false)), 256) := by kernel_rfl
set_option maxRecDepth 100000 in
set_option maxHeartbeats 4000000 in
theorem rmean_any {A : Option Addr} {c : Nat} {l : List Stp} {w : World} (hx0 : STL w A c l) :
    Calls Try.prog 4 #[.slice A l.length c] w fun e w' => e = .returned (.bool true) ∧ Ext w w' := by
  obtain ⟨hzB, hsB⟩ := zero_of_info zeroB
  obtain ⟨n, hn⟩ : ∃ n, min l.length 300 = n := ⟨_, rfl⟩
  have hx := hx0.take n
  have hln : (l.take n).length = n := by rw [List.length_take]; omega
  have hmn : (if (300 : Int) < (l.length : Int) then 300 else (l.length : Int)) = (n : Int) := by split <;> omega
  have hnl : n ≤ l.length := by omega
  have hn2 : n ≤ 300 := by omega
  have hlc := hx0.le
  have hcap := hx0.cap
  have hnc : n ≤ c := by omega
  clear hn
  generalize l.take n = l' at *
  have HLN := Lib.hid hln
  go_enter Try.func4, Try.ntmps4
  clear hln
  go_wp2_with fail
  clear hmn
  refine (new_anyb (l := []) ⟨fun h => absurd h (by simp), Nat.le_refl _, fun z h => (by cases h)⟩ (by simp)).mono ?_
  rintro e w2 ⟨p, A0, c0, rfl, hp, hS0, hE0⟩
  have hb0 := hE0.blk (heap_alloc_new w (.cells (cellsB fun _ => false) 36))
  have hEw := (ext_alloc w (.cells (cellsB fun _ => false) 36)).trans hE0
  rw [World.size_alloc] at hp hS0
  clear hE0 hzB
  go_wp2
  go_loopw [5, 6, 7, 8] (fun iv _ _ _ wr => ∃ (k : Nat) (L : List Rn) (A1 : Option Addr) (c1 : Nat), k ≤ n ∧ iv = .int .i64 k ∧ SetAtb (w.heap.size + 1) p A1 c1 wr L ∧ InB 0 256 L ∧ wr.heap[w.heap.size]? = some (.cells (cellsB (bitsL L)) 36 (0, 0)) ∧ Ext w wr) (fun iv _ _ _ _ => n - (intOf iv).toNat)
  case atStart => exact ⟨0, [], A0, c0, Nat.zero_le _, rfl, hS0, fun r h => (by cases h), hb0, hEw⟩
  case round =>
    clear hS0 hb0 hEw
    rename World => v1
    obtain ⟨k, L, A1, c1, hk, rfl, hS, hI, hb, hE⟩ := hrel
    have hl : L.length ≤ 256 := len_inb hS.wf hI
    have hszw := hE.size
    have hplt : p < v1.heap.size := (Array.getElem?_eq_some_iff.1 hS.hd).1
    have hszw2 : w.heap.size + 1 ≤ v1.heap.size := by omega
    by_cases hlt : k < n
    · obtain ⟨x, hxi⟩ : ∃ x, l'[k]? = some x := ⟨_, List.getElem?_eq_getElem (by rw [HLN.out]; exact hlt)⟩
      obtain ⟨b, off, rfl, hkc, hcx⟩ := hx.at hxi
      have hbd := hx.bd x (List.mem_of_getElem? hxi)
      obtain ⟨xl, xh, g⟩ := x
      have hst1 := step_wf hS.wf ⟨xl, xh, g⟩
      have hst2 := step_inb hS.wf hI hbd
      obtain ⟨⟨d1, d2⟩, d3, d4⟩ := hbd
      simp only at d1 d2 d3 d4 hcx
      obtain ⟨lo, rfl⟩ : ∃ m : Nat, xl = m := ⟨xl.toNat, by omega⟩
      obtain ⟨hi, rfl⟩ : ∃ m : Nat, xh = m := ⟨xh.toNat, by omega⟩
      have hlo : lo < 256 := by omega
      have hhi : hi < 256 := by omega
      have hwl : IntKind.i64.wrap (lo : Int) = (lo : Int) := by rw [IntKind.wrap_i64]; omega
      have hwh : IntKind.i64.wrap (hi : Int) = (hi : Int) := by rw [IntKind.wrap_i64]; omega
      have q0 := (hcx v1 hE).1
      go_wp2
      clear q0
      go_loopw [6, 7] (fun tv nv wx => ∃ j t : Nat, lo ≤ j ∧ (j = lo ∨ j ≤ hi + 1) ∧ nv = .int .i64 j ∧ tv = .int .i64 t ∧ t ≤ j ∧ Hid (t = numC (fun x => hasB L x == g) lo (j - lo)) ∧ wx.heap[w.heap.size]? = some (.cells (cellsB (bitsJ L lo j g)) 36 (0, 0)) ∧ Exc (fun q _ => q = w.heap.size) v1 wx) (fun _ nv _ => 257 - (intOf nv).toNat)
      case atStart => exact ⟨lo, 0, Nat.le_refl _, .inl rfl, rfl, rfl, Nat.zero_le _, Lib.hid (by rw [Nat.sub_self]; rfl), by rw [bitsJ_start]; exact hb, exc_refl _ _⟩
      case round =>
        obtain ⟨j, t, hj1, hj2, rfl, rfl, htj, HT, hbx, hX⟩ := hrel
        have hEx : Ext w wr := hX.to_ext hE (fun q o h => by omega)
        have q1 := (hcx wr hEx).2.1
        by_cases hjh : j ≤ hi
        · have hjh2 : (j : Int) ≤ (hi : Int) := by omega
          have hj256 : j < 256 := by omega
          have hj256' : (j : Int) < 256 := by omega
          obtain ⟨bv, hbv⟩ : ∃ bv, hasB L j = bv := ⟨_, rfl⟩
          have qj : ∀ W', Ext wr W' → W'.cell? ⟨w.heap.size, j, none⟩ = some (.bool bv) := fun W' h => by
            rw [cell_of_row W' w.heap.size j _ _ _ (h.blk hbx), cellsB_at _ hj256]
            unfold bitsJ
            rw [if_neg (by omega), hbv]
          have qg : ∀ W', Ext wr W' → W'.cell? ⟨b, off + k * 3 + 2, none⟩ = some (.bool g) := fun W' h => (hcx W' (hEx.trans h)).2.2
          have hns : numC (fun x => hasB L x == g) lo (j + 1 - lo) = numC (fun x => hasB L x == g) lo (j - lo) + (if (bv == g) = true then 1 else 0) := by
            rw [show j + 1 - lo = (j - lo) + 1 by omega]
            simp only [numC]
            have e : (lo : Int) + ((j - lo : Nat) : Int) = (j : Int) := by omega
            simp only [e, hbv]
          rw [← HT.out] at hns
          have HBV := Lib.hid hbv
          clear hbv HT
          go_wp2
          refine wp_region_rg Ext rel_ext (fun _ => True) [0, 1, 2, 3, 4, 5, 6, 7, 8] (fun _ => none) (fun _ => none) (fun _ => false) (by kernel_rfl) (by kernel_rfl) (fun _ _ _ _ => trivial) trivial (fun W N hW _ hN => ?_)
          have hEW := hW
          repeat (first | (apply wpR_one; (case ho => (simp only [List.getElem?_toArray, List.getElem?_cons_succ, List.getElem?_cons_zero]; try exact rfl)); (case hw => rfl); (case hl => rfl); (case hsp => rfl); (case he => rfl); (case hv => (intro w' hw'; (try (have hw2 := Ext.trans hEW hw')); (try (have hw3 := Exc.trans hEW hw')); (try (have hw4 := Exk.trans hEW hw')); (try (have hw5 := Mrk.trans hEW hw')); go_simp; exact rfl)); (case hw0 => (first | exact Below.refl _ _ | exact Exc.of_ext (Below.refl _ _) | exact Exk.of_ext (Below.refl _ _) | exact Mrk.of_ext (Below.refl _ _))); simp only [Act.put, List.setIfInBounds_toArray, List.set_cons_succ, List.set_cons_zero]) | (apply wpR_early; (case ho => (simp only [List.getElem?_toArray, List.getElem?_cons_succ, List.getElem?_cons_zero]; try exact rfl)); (case hw => rfl); (case hl => rfl); (case hsp => rfl); (case he => rfl); (case hv => (intro w' hw'; (try have hw2 := Ext.trans hEW hw'); go_simp; exact rfl)); simp only [Act.put, List.setIfInBounds_toArray, List.set_cons_succ, List.set_cons_zero]) | (apply wpR_pass; (case ho => (simp only [List.getElem?_toArray, List.getElem?_cons_succ, List.getElem?_cons_zero]; try exact rfl)); (case hw => rfl); (case hl => rfl); simp only [Act.put, List.setIfInBounds_toArray, List.set_cons_succ, List.set_cons_zero]))
          apply wpR_nil
          apply hN
          intro w' hE' hK _
          have hE2 := hEW.trans hE'
          have hb2 := hE2.blk hbx
          have hX2 := hX.trans (Exc.of_ext hE2)
          have q2 := qj w' hE2
          have f2 := frozen_of_row w' w.heap.size j _ _ hb2
          have hb3 := heap_setCell_same w' w.heap.size j _ _ (.bool (!bv)) hb2
          have hX3 := hX2.trans (setCell_exc w' w.heap.size j (.bool (!bv)))
          clear hK hN qj qg hW hEW hE' hE2 hX hbx q1 hEx
          obtain ⟨eq, heq⟩ : ∃ q, (bv == g) = q := ⟨_, rfl⟩
          rw [heq] at hns ⊢
          cases eq with
          | true =>
            have hbg : bv = g := by simpa using heq
            have hb4 : (w'.setCell ⟨w.heap.size, j, none⟩ (.bool (!bv))).heap[w.heap.size]? = some (.cells (cellsB (bitsJ L lo (j + 1) g)) 36 (0, 0)) := by
              rw [hb3, hbg, bitsJ_turn L g hj1]
            have HT2 : Hid (t + 1 = numC (fun x => hasB L x == g) lo (j + 1 - lo)) := Lib.hid (by rw [hns, if_pos rfl])
            clear hns hb2 hX2 hbg heq hb3
            go_wp2
            go_roundw
            case rel => exact ⟨j + 1, t + 1, by omega, .inr (by omega), by go_num, by go_num, by omega, HT2, hb4, hX3⟩
            case measure => simp [intOf]; omega
          | false =>
            have hbv2 : bv = !g := by cases bv <;> cases g <;> simp_all
            have hb4 : w'.heap[w.heap.size]? = some (.cells (cellsB (bitsJ L lo (j + 1) g)) 36 (0, 0)) := by
              rw [bitsJ_keep L g hj1 (by rw [HBV.out, hbv2])]; exact hb2
            have HT2 : Hid (t = numC (fun x => hasB L x == g) lo (j + 1 - lo)) := Lib.hid (by simpa using hns.symm)
            clear hns hb3 hX3 hbv2 hb2 f2 q2 heq
            go_wp2
            go_roundw
            case rel => exact ⟨j + 1, t, by omega, .inr (by omega), by go_num, rfl, by omega, HT2, hb4, hX2⟩
            case measure => simp [intOf]; omega
        · have hjh2 : ¬ (j : Int) ≤ (hi : Int) := by omega
          have hjj : (lo ≤ hi ∧ j = hi + 1) ∨ (hi < lo ∧ j = lo) := by omega
          have hbits := step_bits hS.wf g j hjj
          have hnum := step_num hS.wf g hhi j hjj
          rw [← HT.out] at hnum
          rw [hbits] at hbx
          have q3 := (hcx wr hEx).2.2
          have hS2 : SetAtb (w.heap.size + 1) p A1 c1 wr L := ⟨hX.blk hS.hd (by omega), own_exc hS.row hX (fun q cs h1 h2 => by omega), hS.wf, hS.bd⟩
          have hszx := hX.size
          have hHN := Lib.hid hnum
          have HST2 := Lib.hid hst2
          have hbdd : Bdb ⟨(lo : Int), (hi : Int)⟩ := ⟨⟨by simp only; omega, by simp only; omega⟩, by simp only; omega, by simp only; omega⟩
          clear HT hbits hnum hX hst1 hst2 hS
          cases g with
          | true =>
            go_wp2
            refine wp_region_rg (Exc fun q _ => q = p) (rel_exc _) (fun W => SetAtb (w.heap.size + 1) p A1 c1 W L) [0, 1, 2, 3, 4, 5, 6, 7, 8, 9, 10, 11, 12] (fun _ => none) (fun i => match i with
              | 11 => some fun _ z W => z = .int .i64 t ∧ ∃ A2 c2, SetAtb (w.heap.size + 1) p A2 c2 W (stepL L ⟨lo, hi, true⟩)
              | _ => none) (fun _ => false) (by kernel_rfl) (by kernel_rfl) (fun _ _ h he => h.ext he) (hS2.ext (Below.refl _ _).drew) (fun W N hW hF0 hN => ?_)
            have hEx2 : ∀ w', Exc (fun q _ => q = p) W w' → Ext w w' := fun w' h => h.to_ext (hEx.trans hW) (fun q o h => by omega)
            have hEW : Exc (fun q _ => q = p) W W := exc_refl _ _
            have x0 : ∀ w', Exc (fun q _ => q = p) W w' → w'.cell? ⟨b, off + k * 3, none⟩ = some (.int .u8 lo) := fun w' h => (hcx w' (hEx2 w' h)).1
            have x1 : ∀ w', Exc (fun q _ => q = p) W w' → w'.cell? ⟨b, off + k * 3 + 1, none⟩ = some (.int .u8 hi) := fun w' h => (hcx w' (hEx2 w' h)).2.1
            have hWs := hW.size
            repeat (first | (apply wpR_one; (case ho => (simp only [List.getElem?_toArray, List.getElem?_cons_succ, List.getElem?_cons_zero]; try exact rfl)); (case hw => rfl); (case hl => rfl); (case hsp => rfl); (case he => rfl); (case hv => (intro w' hw'; (try (have hw2 := Ext.trans hEW hw')); (try (have hw3 := Exc.trans hEW hw')); (try (have hw4 := Exk.trans hEW hw')); (try (have hw5 := Mrk.trans hEW hw')); go_simp; exact rfl)); (case hw0 => (first | exact Below.refl _ _ | exact Exc.of_ext (Below.refl _ _) | exact Exk.of_ext (Below.refl _ _) | exact Mrk.of_ext (Below.refl _ _))); simp only [Act.put, List.setIfInBounds_toArray, List.set_cons_succ, List.set_cons_zero]) | (apply wpR_early; (case ho => (simp only [List.getElem?_toArray, List.getElem?_cons_succ, List.getElem?_cons_zero]; try exact rfl)); (case hw => rfl); (case hl => rfl); (case hsp => rfl); (case he => rfl); (case hv => (intro w' hw'; (try have hw2 := Ext.trans hEW hw'); go_simp; exact rfl)); simp only [Act.put, List.setIfInBounds_toArray, List.set_cons_succ, List.set_cons_zero]) | (apply wpR_pass; (case ho => (simp only [List.getElem?_toArray, List.getElem?_cons_succ, List.getElem?_cons_zero]; try exact rfl)); (case hw => rfl); (case hl => rfl); simp only [Act.put, List.setIfInBounds_toArray, List.set_cons_succ, List.set_cons_zero]))
            refine wpR_late (by ((simp only [List.getElem?_toArray, List.getElem?_cons_succ, List.getElem?_cons_zero]; try exact rfl))) _ rfl rfl (fun V v w' w2 ⟨h0, A', c', h1⟩ he => ⟨h0, A', c', h1.ext he⟩) (fun V V' h => rfl) (fun w' hw' hK hF => ?_) (fun v hv => ?_)
            · have hF2 : SetAtb (w.heap.size + 1) p A1 c1 w' L := hF
              have hws := hw'.size
              unfold opAt; go_simp; refine upAt_enter ?_
              refine (rem_allb hF2 (by omega) hbdd (by omega) (by omega)).mono ?_
              rintro e w3 ⟨A2, c2, rfl, hS3, hX3⟩
              exact ⟨_, rfl, hX3, by rw [← hHN.out]; rfl, A2, c2, hS3⟩
            obtain ⟨_, _, rfl, _⟩ := hv
            simp only [Act.put, List.setIfInBounds_toArray, List.set_cons_succ, List.set_cons_zero]
            repeat (first | (apply wpR_one; (case ho => (simp only [List.getElem?_toArray, List.getElem?_cons_succ, List.getElem?_cons_zero]; try exact rfl)); (case hw => rfl); (case hl => rfl); (case hsp => rfl); (case he => rfl); (case hv => (intro w' hw'; (try (have hw2 := Ext.trans hEW hw')); (try (have hw3 := Exc.trans hEW hw')); (try (have hw4 := Exk.trans hEW hw')); (try (have hw5 := Mrk.trans hEW hw')); go_simp; exact rfl)); (case hw0 => (first | exact Below.refl _ _ | exact Exc.of_ext (Below.refl _ _) | exact Exk.of_ext (Below.refl _ _) | exact Mrk.of_ext (Below.refl _ _))); simp only [Act.put, List.setIfInBounds_toArray, List.set_cons_succ, List.set_cons_zero]) | (apply wpR_early; (case ho => (simp only [List.getElem?_toArray, List.getElem?_cons_succ, List.getElem?_cons_zero]; try exact rfl)); (case hw => rfl); (case hl => rfl); (case hsp => rfl); (case he => rfl); (case hv => (intro w' hw'; (try have hw2 := Ext.trans hEW hw'); go_simp; exact rfl)); simp only [Act.put, List.setIfInBounds_toArray, List.set_cons_succ, List.set_cons_zero]) | (apply wpR_pass; (case ho => (simp only [List.getElem?_toArray, List.getElem?_cons_succ, List.getElem?_cons_zero]; try exact rfl)); (case hw => rfl); (case hl => rfl); simp only [Act.put, List.setIfInBounds_toArray, List.set_cons_succ, List.set_cons_zero]))
            apply wpR_nil
            apply hN
            intro w3 hE3 hK hF3
            obtain ⟨_, A2, c2, hS3⟩ : True ∧ ∃ A2 c2, SetAtb (w.heap.size + 1) p A2 c2 w3 (stepL L ⟨lo, hi, true⟩) := hF3
            have hb3 := hE3.blk (hW.blk hbx) (show ¬ w.heap.size = p by omega)
            have hEw3 := hEx2 w3 hE3
            clear hK hN x0 x1 hEx2 hEW hE3 hW hF0 hbx hS2 q3 q1
            go_wp2
            go_roundw
            case rel => exact ⟨k + 1, _, A2, c2, by omega, by go_num, hS3, HST2.out, hb3, hEw3⟩
            case measure => simp [intOf]; omega
          | false =>
            go_wp2
            refine wp_region_rg (Exc fun q _ => q = p) (rel_exc _) (fun W => SetAtb (w.heap.size + 1) p A1 c1 W L) [0, 1, 2, 3, 4, 5, 6, 7, 8, 9, 10, 11, 12] (fun _ => none) (fun i => match i with
              | 11 => some fun _ z W => z = .int .i64 t ∧ ∃ A2 c2, SetAtb (w.heap.size + 1) p A2 c2 W (stepL L ⟨lo, hi, false⟩)
              | _ => none) (fun _ => false) (by kernel_rfl) (by kernel_rfl) (fun _ _ h he => h.ext he) (hS2.ext (Below.refl _ _).drew) (fun W N hW hF0 hN => ?_)
            have hEx2 : ∀ w', Exc (fun q _ => q = p) W w' → Ext w w' := fun w' h => h.to_ext (hEx.trans hW) (fun q o h => by omega)
            have hEW : Exc (fun q _ => q = p) W W := exc_refl _ _
            have x0 : ∀ w', Exc (fun q _ => q = p) W w' → w'.cell? ⟨b, off + k * 3, none⟩ = some (.int .u8 lo) := fun w' h => (hcx w' (hEx2 w' h)).1
            have x1 : ∀ w', Exc (fun q _ => q = p) W w' → w'.cell? ⟨b, off + k * 3 + 1, none⟩ = some (.int .u8 hi) := fun w' h => (hcx w' (hEx2 w' h)).2.1
            have hWs := hW.size
            repeat (first | (apply wpR_one; (case ho => (simp only [List.getElem?_toArray, List.getElem?_cons_succ, List.getElem?_cons_zero]; try exact rfl)); (case hw => rfl); (case hl => rfl); (case hsp => rfl); (case he => rfl); (case hv => (intro w' hw'; (try (have hw2 := Ext.trans hEW hw')); (try (have hw3 := Exc.trans hEW hw')); (try (have hw4 := Exk.trans hEW hw')); (try (have hw5 := Mrk.trans hEW hw')); go_simp; exact rfl)); (case hw0 => (first | exact Below.refl _ _ | exact Exc.of_ext (Below.refl _ _) | exact Exk.of_ext (Below.refl _ _) | exact Mrk.of_ext (Below.refl _ _))); simp only [Act.put, List.setIfInBounds_toArray, List.set_cons_succ, List.set_cons_zero]) | (apply wpR_early; (case ho => (simp only [List.getElem?_toArray, List.getElem?_cons_succ, List.getElem?_cons_zero]; try exact rfl)); (case hw => rfl); (case hl => rfl); (case hsp => rfl); (case he => rfl); (case hv => (intro w' hw'; (try have hw2 := Ext.trans hEW hw'); go_simp; exact rfl)); simp only [Act.put, List.setIfInBounds_toArray, List.set_cons_succ, List.set_cons_zero]) | (apply wpR_pass; (case ho => (simp only [List.getElem?_toArray, List.getElem?_cons_succ, List.getElem?_cons_zero]; try exact rfl)); (case hw => rfl); (case hl => rfl); simp only [Act.put, List.setIfInBounds_toArray, List.set_cons_succ, List.set_cons_zero]))
            refine wpR_late (by ((simp only [List.getElem?_toArray, List.getElem?_cons_succ, List.getElem?_cons_zero]; try exact rfl))) _ rfl rfl (fun V v w' w2 ⟨h0, A', c', h1⟩ he => ⟨h0, A', c', h1.ext he⟩) (fun V V' h => rfl) (fun w' hw' hK hF => ?_) (fun v hv => ?_)
            · have hF2 : SetAtb (w.heap.size + 1) p A1 c1 w' L := hF
              have hws := hw'.size
              unfold opAt; go_simp; refine upAt_enter ?_
              refine (add_allb hF2 (by omega) hbdd (by omega) (by omega)).mono ?_
              rintro e w3 ⟨A2, c2, rfl, hS3, hX3⟩
              exact ⟨_, rfl, hX3, by rw [← hHN.out]; rfl, A2, c2, hS3⟩
            obtain ⟨_, _, rfl, _⟩ := hv
            simp only [Act.put, List.setIfInBounds_toArray, List.set_cons_succ, List.set_cons_zero]
            repeat (first | (apply wpR_one; (case ho => (simp only [List.getElem?_toArray, List.getElem?_cons_succ, List.getElem?_cons_zero]; try exact rfl)); (case hw => rfl); (case hl => rfl); (case hsp => rfl); (case he => rfl); (case hv => (intro w' hw'; (try (have hw2 := Ext.trans hEW hw')); (try (have hw3 := Exc.trans hEW hw')); (try (have hw4 := Exk.trans hEW hw')); (try (have hw5 := Mrk.trans hEW hw')); go_simp; exact rfl)); (case hw0 => (first | exact Below.refl _ _ | exact Exc.of_ext (Below.refl _ _) | exact Exk.of_ext (Below.refl _ _) | exact Mrk.of_ext (Below.refl _ _))); simp only [Act.put, List.setIfInBounds_toArray, List.set_cons_succ, List.set_cons_zero]) | (apply wpR_early; (case ho => (simp only [List.getElem?_toArray, List.getElem?_cons_succ, List.getElem?_cons_zero]; try exact rfl)); (case hw => rfl); (case hl => rfl); (case hsp => rfl); (case he => rfl); (case hv => (intro w' hw'; (try have hw2 := Ext.trans hEW hw'); go_simp; exact rfl)); simp only [Act.put, List.setIfInBounds_toArray, List.set_cons_succ, List.set_cons_zero]) | (apply wpR_pass; (case ho => (simp only [List.getElem?_toArray, List.getElem?_cons_succ, List.getElem?_cons_zero]; try exact rfl)); (case hw => rfl); (case hl => rfl); simp only [Act.put, List.setIfInBounds_toArray, List.set_cons_succ, List.set_cons_zero]))
            apply wpR_nil
            apply hN
            intro w3 hE3 hK hF3
            obtain ⟨_, A2, c2, hS3⟩ : True ∧ ∃ A2 c2, SetAtb (w.heap.size + 1) p A2 c2 w3 (stepL L ⟨lo, hi, false⟩) := hF3
            have hb3 := hE3.blk (hW.blk hbx) (show ¬ w.heap.size = p by omega)
            have hEw3 := hEx2 w3 hE3
            clear hK hN x0 x1 hEx2 hEW hE3 hW hF0 hbx hS2 q3 q1
            go_wp2
            go_roundw
            case rel => exact ⟨k + 1, _, A2, c2, by omega, by go_num, hS3, HST2.out, hb3, hEw3⟩
            case measure => simp [intOf]; omega
    · obtain rfl : k = n := by omega
      go_wp2_with (refine wpList_load_row rfl _ _ rfl w.heap.size rfl _ _ _ _ hb Try.underlying36 rfl (by rw [cellsB_size]; exact hsB) ?_)
      refine (meant_any hS hI).mono ?_
      rintro e w3 ⟨rfl, hE3⟩
      go_wp2
      go_ret
      exact ⟨rfl, hE.trans hE3⟩
end Go.Proofs.Ytffapgemacbdjaa
