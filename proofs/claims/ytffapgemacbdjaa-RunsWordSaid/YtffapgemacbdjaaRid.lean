/- Package runs, at uint16: All, and what the law asks of it: eqRuns, goes. No condition but the bounds of the kind and of the sizes. -/
import Derived.Test.YtffapgemacbdjaaRhd
import Derived.Test.YtffapgemacbdjaaRef2
namespace Go.Proofs.Ytffapgemacbdjaa
open Go.RowKit Go.Proofs Go.Shelf
set_option linter.unusedVariables false
attribute [local go_sem] Oper.semAt_some
/-- A walk in memory: the cell that holds the header of its runs. -/
structure WalkAtd (B b : Nat) (A : Option Addr) (c : Nat) (w : World) (L : List Rn) : Prop where
  hd : w.heap[b]? = some (.cells #[.slice A L.length c] 203 (0, 0))
  row : RowRd B w A c L
  wf : WfR L
  bd : ∀ r ∈ L, Bdd r
theorem WalkAtd.ext {B b c : Nat} {A : Option Addr} {w w' : World} {L : List Rn} (h : WalkAtd B b A c w L) (he : Ext w w') : WalkAtd B b A c w' L := ⟨he.blk h.hd, h.row.ext he, h.wf, h.bd⟩
theorem WalkAtd.round {B b c C : Nat} {Dk : Nat → Prop} {A : Option Addr} {w w' : World} {L : List Rn} (h : WalkAtd B b A c w L) (he : RoundX Dk C w w') (hp : ¬ Dk b) (hd : ∀ q, (Value.slice A L.length c).ownBlock = some q → ¬ Dk q) : WalkAtd B b A c w' L :=
  ⟨he.cells h.hd hp, h.row.round he hd, h.wf, h.bd⟩
abbrev walkVd (b : Nat) : Value := .func (.func 157) #[] #[.pointer (some ⟨b, 0, none⟩)]
theorem all_anyd {B p c : Nat} {A : Option Addr} {L : List Rn} {w : World} (hS : SetAtd B p A c w L) (hl : L.length ≤ 1000000) :
    Calls Try.prog 113 #[.pointer (some ⟨p, 0, none⟩)] w fun e w' => ∃ b A' c', e = .returned (walkVd b) ∧ w.heap.size ≤ b ∧ WalkAtd w.heap.size b A' c' w' L ∧ Ext w w' := by
  have hmf : ∀ (fn : Fn) (first cap : Array Value) (w : World), (Instr.makeFunc fn first cap).run Try.prog w = .ok (.func fn first cap) w := fun _ _ _ _ => rfl
  go_enter Try.func113, Try.ntmps113
  go_wp2_with fail
  refine (runs_anyd hS hl).mono ?_
  rintro e w2 ⟨A', c', rfl, hR, hE⟩
  go_wp2
  go_ret
  exact ⟨_, A', c', rfl, hE.size, ⟨heap_alloc_new _ _, hR.ext (ext_alloc _ _), hS.wf, hS.bd⟩, hE.trans (ext_alloc _ _)⟩
abbrev encNd (x : Int) : Array Value := #[.int .u16 x]
set_option maxRecDepth 100000 in
set_option maxHeartbeats 2000000 in
theorem all_seqd {B b c : Nat} {A : Option Addr} {L : List Rn} {w : World} {Dk : Nat → Prop} (hS : WalkAtd B b A c w L) (hl : L.length ≤ 1000000) (hlt : ∀ q, Dk q → q < w.heap.size) (hb : ¬ Dk b) (hd : ∀ q, (Value.slice A L.length c).ownBlock = some q → ¬ Dk q) :
    SeqX Try.prog 157 #[.pointer (some ⟨b, 0, none⟩)] encNd (fun _ => False) Dk (fun xs => xs = numsL L) (fun pre => pre <+: numsL L) w := by
  intro l J Jx W hW hJ hJx hY h0
  replace hS := hS.round hW (fun h => h) (fun q _ h => h)
  have hWs := hW.size
  clear hW
  have q0 := cell_of_row W b 0 _ _ _ hS.hd
  simp only [List.getElem?_toArray, List.getElem?_cons_zero] at q0
  refine callsIn_of_wp Try.func157 rfl trivial ?_ rfl
  simp only [Try.ntmps157, List.size_toArray, List.length_cons, List.length_nil, Nat.reduceAdd, Nat.reduceSub, Array.replicate_succ, Array.replicate_zero, List.push_toArray, List.append_toArray, List.nil_append, List.cons_append]
  gi_wp2
  clear q0
  gi_loopw [8] (fun i wr => ∃ k : Nat, k ≤ L.length ∧ i = .int .i64 k ∧ J (numsL (L.take k)) wr ∧ RoundX Dk W.heap.size W wr) (fun i _ => L.length - (intOf i).toNat)
  case atStart => exact ⟨0, Nat.zero_le _, rfl, h0, RoundX.refl _ _ _⟩
  case round =>
    obtain ⟨k, hk, rfl, hJs, hX⟩ := hrel
    rename World => v1
    by_cases hkl : k < L.length
    · obtain ⟨x, hx⟩ : ∃ x, L[k]? = some x := ⟨_, List.getElem?_eq_getElem hkl⟩
      obtain ⟨g, rfl, hlc, hBg, c0, c1⟩ := (hS.row.round hX hd).at hx
      have hkc : k < c := by omega
      have hbx := hS.bd x (List.mem_of_getElem? hx)
      have hwx := hS.wf.each x (List.mem_of_getElem? hx)
      have hst := numsU_start L hx
      have HX := Lib.hid hx
      obtain ⟨xl, xh⟩ := x
      obtain ⟨⟨b1, b2⟩, b3, b4⟩ := hbx
      simp only at b1 b2 b3 b4 hwx hst
      rw [← hst] at hJs
      have hJ1 := hJ _ _ _ none hJs (grown_ext (ext_alloc v1 (Obj.cells #[.int .u16 xl, .int .u16 xh] 220))) (fun r e => by cases e)
      have hX1 := hX.trans (RoundX.of_ext (ext_alloc v1 (Obj.cells #[.int .u16 xl, .int .u16 xh] 220)))
      have hbk := heap_alloc_new v1 (Obj.cells #[.int .u16 xl, .int .u16 xh] 220)
      have hXs := hX.size
      have hnd : ¬ Dk v1.heap.size := fun h => by have := hlt _ h; omega
      clear hx hst hJs
      gi_wp2
      clear c0 c1
      gi_loopw [5] (fun xv wr => ∃ y : Int, xl ≤ y ∧ y ≤ xh ∧ xv = .int .u16 y ∧ J (numsU L k y) wr ∧ RoundX Dk W.heap.size W wr ∧ wr.heap[v1.heap.size]? = some (.cells #[.int .u16 xl, .int .u16 xh] 220 (0, 0))) (fun xv _ => (xh - intOf xv).toNat)
      case atStart => exact ⟨xl, Int.le_refl _, hwx, rfl, hJ1, hX1, hbk⟩
      case round =>
        clear hJ1 hX1 hbk hX
        obtain ⟨y, hy1, hy2, rfl, hJs, hX, hbk⟩ := hrel
        have hpre := numsU_prefix L HX.out hy1 hy2
        have hstep := numsU_step L HX.out hy1
        rw [hstep] at hpre
        obtain ⟨fn, tmps, assign, body, hy, hR⟩ := hY (numsU L k y) y wr hJs (by rw [hstep]; exact hpre)
        rw [hstep] at hR
        have HP := Lib.hid hpre
        clear hstep hpre
        gi_wp2
        refine ⟨rfl, hR.mono ?_⟩
        rintro e W3 (⟨rfl, hJ3, hk3⟩ | ⟨rfl, hJx3, hk3⟩)
        · have hX3 := hX.trans hk3
          have hbk3 := hk3.cells hbk hnd
          have q1 := cell_of_row W3 v1.heap.size 1 _ _ _ hbk3
          simp only [List.getElem?_toArray, List.getElem?_cons_zero, List.getElem?_cons_succ] at q1
          clear hk3 hR hy
          by_cases hyh : y = xh
          · subst hyh
            have he := numsU_end L HX.out
            simp only at he
            rw [he] at hJ3
            clear he
            gi_wp2
            go_roundw
            case rel => exact ⟨k + 1, by omega, by go_num, hJ3, hX3⟩
            case measure => simp [intOf]; omega
          · gi_wp2
            go_roundw
            case rel => exact ⟨y + 1, by omega, by omega, by go_num, hJ3, hX3, hbk3⟩
            case measure => simp [intOf]; omega
        · gi_wp2
          refine bodyPost_ret (results_none rfl _ _ _) rfl ?_
          exact ⟨⟨_, rfl⟩, .inr ⟨_, HP.out, hJx3⟩⟩
    · obtain rfl : k = L.length := by omega
      rw [List.take_length] at hJs
      gi_wp2
      go_end0
      exact ⟨⟨_, rfl⟩, .inl ⟨_, rfl, hJs⟩⟩
set_option maxRecDepth 100000 in
set_option maxHeartbeats 1000000 in
theorem eqr_anyd {B B' c d : Nat} {A A' : Option Addr} {L M : List Rn} {w : World} (hx0 : RowRd B w A c L) (hy0 : RowRr B' w A' d M) (hb : ∀ r ∈ L, Bdd r) (hl : L.length ≤ 1000000) (hm : M.length ≤ 1000000) :
    Calls Try.prog 111 #[.slice A L.length c, .slice A' M.length d] w fun e w' => e = .returned (.bool (decide (L = M))) ∧ Ext w w' := by
  by_cases hll : L.length = M.length
  · have HLL := Lib.hid hll
    have h1 : (L.length : Int) = (M.length : Int) := by omega
    clear hll
    go_enter Try.func111, Try.ntmps111
    go_wp2
    clear h1
    go_loopw [5] (fun i wr => ∃ k : Nat, k ≤ L.length ∧ i = .int .i64 k ∧ Hid (L.take k = M.take k) ∧ Ext w wr) (fun i _ => L.length - (intOf i).toNat)
    case atStart => exact ⟨0, Nat.zero_le _, rfl, Lib.hid rfl, Below.refl _ _⟩
    case round =>
      obtain ⟨k, hk, rfl, HT, hE⟩ := hrel
      by_cases hlt : k < L.length
      · have hlt2 : k < M.length := by have := HLL.out; omega
        obtain ⟨u, hu⟩ : ∃ u, L[k]? = some u := ⟨_, List.getElem?_eq_getElem hlt⟩
        obtain ⟨v, hv⟩ : ∃ v, M[k]? = some v := ⟨_, List.getElem?_eq_getElem hlt2⟩
        obtain ⟨g, rfl, hlc, _, _, _⟩ := (hx0.ext hE).at hu
        obtain ⟨g', rfl, hkd, hcv⟩ := (hy0.ext hE).read hv
        have hkc : k < c := by omega
        have hbu := hb u (List.mem_of_getElem? hu)
        have x0 : ∀ W, Ext wr W → W.cell? ⟨g, k * 2, none⟩ = some (.int .u16 u.lo) := fun W h => by
          obtain ⟨g2, e, _, _, h1, _⟩ := (hx0.ext (hE.trans h)).at hu
          injection e with e; injection e with e; subst e; exact h1
        have x1 : ∀ W, Ext wr W → W.cell? ⟨g, k * 2 + 1, none⟩ = some (.int .u16 u.hi) := fun W h => by
          obtain ⟨g2, e, _, _, _, h1⟩ := (hx0.ext (hE.trans h)).at hu
          injection e with e; injection e with e; subst e; exact h1
        have x2 : ∀ W, Ext wr W → W.cell? ⟨g', k * 2, none⟩ = some (.int .i64 v.lo) := fun W h => (hcv W h).1
        have x3 : ∀ W, Ext wr W → W.cell? ⟨g', k * 2 + 1, none⟩ = some (.int .i64 v.hi) := fun W h => (hcv W h).2
        obtain ⟨⟨b1, b2⟩, b3, b4⟩ := hbu
        have hw1 : IntKind.i64.wrap u.lo = u.lo := by rw [IntKind.wrap_i64]; omega
        have hw2 : IntKind.i64.wrap u.hi = u.hi := by rw [IntKind.wrap_i64]; omega
        have HU := Lib.hid hu
        have HV := Lib.hid hv
        obtain ⟨q1, hq1⟩ : ∃ q, (u.lo != v.lo) = q := ⟨_, rfl⟩
        obtain ⟨q2, hq2⟩ : ∃ q, (u.hi != v.hi) = q := ⟨_, rfl⟩
        have HQ1 := Lib.hid hq1
        have HQ2 := Lib.hid hq2
        clear hu hv hcv
        have hfalse : (q1 = true ∨ q2 = true) → decide (L = M) = false := fun h => by
          rw [decide_eq_false_iff_not]
          rintro rfl
          have e1 := HU.out
          rw [HV.out] at e1
          injection e1 with e1
          subst e1
          have e2 := HQ1.out
          have e3 := HQ2.out
          simp at e2 e3
          rcases h with h | h
          · rw [h] at e2; cases e2
          · rw [h] at e3; cases e3
        have HF := Lib.hid hfalse
        clear hfalse
        cases q1 with
        | true =>
          go_wp2
          refine wp_region_rg Ext rel_ext (fun _ => True) [0, 1, 2, 3, 4, 5, 6, 7, 8, 9, 10, 11, 12, 13, 14, 15, 16, 17, 18, 19, 20, 21, 22, 23, 24, 25] (fun _ => none) (fun _ => none) (fun _ => false) (by kernel_rfl) (by kernel_rfl) (fun _ _ _ _ => trivial) trivial (fun W N hW _ hN => ?_)
          have hEW := hW
          repeat (first | (apply wpR_one; (case ho => (simp only [List.getElem?_toArray, List.getElem?_cons_succ, List.getElem?_cons_zero]; try exact rfl)); (case hw => rfl); (case hl => rfl); (case hsp => rfl); (case he => rfl); (case hv => (intro w' hw'; (try (have hw2 := Ext.trans hEW hw')); (try (have hw3 := Exc.trans hEW hw')); (try (have hw4 := Exk.trans hEW hw')); (try (have hw5 := Mrk.trans hEW hw')); go_simp; exact rfl)); (case hw0 => (first | exact Below.refl _ _ | exact Exc.of_ext (Below.refl _ _) | exact Exk.of_ext (Below.refl _ _) | exact Mrk.of_ext (Below.refl _ _))); simp only [Act.put, List.setIfInBounds_toArray, List.set_cons_succ, List.set_cons_zero]) | (apply wpR_early; (case ho => (simp only [List.getElem?_toArray, List.getElem?_cons_succ, List.getElem?_cons_zero]; try exact rfl)); (case hw => rfl); (case hl => rfl); (case hsp => rfl); (case he => rfl); (case hv => (intro w' hw'; (try have hw2 := Ext.trans hEW hw'); go_simp; exact rfl)); simp only [Act.put, List.setIfInBounds_toArray, List.set_cons_succ, List.set_cons_zero]) | (apply wpR_pass; (case ho => (simp only [List.getElem?_toArray, List.getElem?_cons_succ, List.getElem?_cons_zero]; try exact rfl)); (case hw => rfl); (case hl => rfl); simp only [Act.put, List.setIfInBounds_toArray, List.set_cons_succ, List.set_cons_zero]))
          apply wpR_nil
          apply hN
          intro w' hE' hK _
          have hE2 := (hE.trans hEW).trans hE'
          clear hK hN x0 x1 x2 x3 hW hEW hE' hq1 hq2
          go_wp2
          go_ret
          exact ⟨ret_bool (HF.out (by simp)).symm, hE2⟩
        | false =>
          cases q2 with
          | true =>
            go_wp2
            refine wp_region_rg Ext rel_ext (fun _ => True) [0, 1, 2, 3, 4, 5, 6, 7, 8, 9, 10, 11, 12, 13, 14, 15, 16, 17, 18, 19, 20, 21, 22, 23, 24, 25] (fun _ => none) (fun _ => none) (fun _ => false) (by kernel_rfl) (by kernel_rfl) (fun _ _ _ _ => trivial) trivial (fun W N hW _ hN => ?_)
            have hEW := hW
            repeat (first | (apply wpR_one; (case ho => (simp only [List.getElem?_toArray, List.getElem?_cons_succ, List.getElem?_cons_zero]; try exact rfl)); (case hw => rfl); (case hl => rfl); (case hsp => rfl); (case he => rfl); (case hv => (intro w' hw'; (try (have hw2 := Ext.trans hEW hw')); (try (have hw3 := Exc.trans hEW hw')); (try (have hw4 := Exk.trans hEW hw')); (try (have hw5 := Mrk.trans hEW hw')); go_simp; exact rfl)); (case hw0 => (first | exact Below.refl _ _ | exact Exc.of_ext (Below.refl _ _) | exact Exk.of_ext (Below.refl _ _) | exact Mrk.of_ext (Below.refl _ _))); simp only [Act.put, List.setIfInBounds_toArray, List.set_cons_succ, List.set_cons_zero]) | (apply wpR_early; (case ho => (simp only [List.getElem?_toArray, List.getElem?_cons_succ, List.getElem?_cons_zero]; try exact rfl)); (case hw => rfl); (case hl => rfl); (case hsp => rfl); (case he => rfl); (case hv => (intro w' hw'; (try have hw2 := Ext.trans hEW hw'); go_simp; exact rfl)); simp only [Act.put, List.setIfInBounds_toArray, List.set_cons_succ, List.set_cons_zero]) | (apply wpR_pass; (case ho => (simp only [List.getElem?_toArray, List.getElem?_cons_succ, List.getElem?_cons_zero]; try exact rfl)); (case hw => rfl); (case hl => rfl); simp only [Act.put, List.setIfInBounds_toArray, List.set_cons_succ, List.set_cons_zero]))
            apply wpR_nil
            apply hN
            intro w' hE' hK _
            have hE2 := (hE.trans hEW).trans hE'
            clear hK hN x0 x1 x2 x3 hW hEW hE' hq1 hq2
            go_wp2
            go_ret
            exact ⟨ret_bool (HF.out (by simp)).symm, hE2⟩
          | false =>
            have HT2 : Hid (L.take (k + 1) = M.take (k + 1)) := Lib.hid (by
              obtain ⟨h1, e1⟩ := List.getElem?_eq_some_iff.1 HU.out
              obtain ⟨h2, e2⟩ := List.getElem?_eq_some_iff.1 HV.out
              have e3 : u.lo = v.lo := by simpa using HQ1.out
              have e4 : u.hi = v.hi := by simpa using HQ2.out
              have e5 : u = v := by cases u; cases v; simp_all
              rw [List.take_succ_eq_append_getElem h1, List.take_succ_eq_append_getElem h2, HT.out, e1, e2, e5])
            go_wp2
            refine wp_region_rg Ext rel_ext (fun _ => True) [0, 1, 2, 3, 4, 5, 6, 7, 8, 9, 10, 11, 12, 13, 14, 15, 16, 17, 18, 19, 20, 21, 22, 23, 24, 25] (fun _ => none) (fun _ => none) (fun _ => false) (by kernel_rfl) (by kernel_rfl) (fun _ _ _ _ => trivial) trivial (fun W N hW _ hN => ?_)
            have hEW := hW
            repeat (first | (apply wpR_one; (case ho => (simp only [List.getElem?_toArray, List.getElem?_cons_succ, List.getElem?_cons_zero]; try exact rfl)); (case hw => rfl); (case hl => rfl); (case hsp => rfl); (case he => rfl); (case hv => (intro w' hw'; (try (have hw2 := Ext.trans hEW hw')); (try (have hw3 := Exc.trans hEW hw')); (try (have hw4 := Exk.trans hEW hw')); (try (have hw5 := Mrk.trans hEW hw')); go_simp; exact rfl)); (case hw0 => (first | exact Below.refl _ _ | exact Exc.of_ext (Below.refl _ _) | exact Exk.of_ext (Below.refl _ _) | exact Mrk.of_ext (Below.refl _ _))); simp only [Act.put, List.setIfInBounds_toArray, List.set_cons_succ, List.set_cons_zero]) | (apply wpR_early; (case ho => (simp only [List.getElem?_toArray, List.getElem?_cons_succ, List.getElem?_cons_zero]; try exact rfl)); (case hw => rfl); (case hl => rfl); (case hsp => rfl); (case he => rfl); (case hv => (intro w' hw'; (try have hw2 := Ext.trans hEW hw'); go_simp; exact rfl)); simp only [Act.put, List.setIfInBounds_toArray, List.set_cons_succ, List.set_cons_zero]) | (apply wpR_pass; (case ho => (simp only [List.getElem?_toArray, List.getElem?_cons_succ, List.getElem?_cons_zero]; try exact rfl)); (case hw => rfl); (case hl => rfl); simp only [Act.put, List.setIfInBounds_toArray, List.set_cons_succ, List.set_cons_zero]))
            apply wpR_nil
            apply hN
            intro w' hE' hK _
            have hE2 := (hE.trans hEW).trans hE'
            clear hK hN x0 x1 x2 x3 hW hEW hE' hq1 hq2
            go_wp2
            go_roundw
            case rel => exact ⟨k + 1, by omega, by go_num, HT2, hE2⟩
            case measure => simp [intOf]; omega
      · obtain rfl : k = L.length := by omega
        go_wp2
        go_ret
        refine ⟨ret_bool ?_, hE⟩
        symm
        have h1 := HT.out
        rw [List.take_length, HLL.out, List.take_length] at h1
        simpa using h1
  · have h1 : ¬ (L.length : Int) = (M.length : Int) := by omega
    go_enter Try.func111, Try.ntmps111
    go_wp2
    go_ret
    exact ⟨ret_bool (by symm; simp only [decide_eq_false_iff_not]; rintro rfl; exact hll rfl), Below.refl _ _⟩
end Go.Proofs.Ytffapgemacbdjaa
