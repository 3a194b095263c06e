/- Layer 10: acted, made. No condition but the sizes. -/
import Derived.Test.YtaalhicdeibodaaPv
namespace Go.Proofs.Ytaalhicdeibodaa
open Go.RowKit Go.Proofs Go.Shelf
set_option linter.unusedVariables false
attribute [local go_sem] Oper.semAt_some
theorem Moved.ext2 {m m' : Pm} {w w1 w2 : World} (h1 : Ext w w1) (h : Moved m m' w1 w2) : Moved m m' w w2 := (Moved.of_ext h1).trans h
set_option maxRecDepth 100000 in
set_option maxHeartbeats 1000000 in
theorem acted_any {B N : Nat} {w : World} {m : Pm} {s : Pl} (h : PoolS B N w m s) (hN : N ≤ 100000) (hBw : B ≤ w.heap.size) (k n t : Int) :
    Calls Try.prog 12 #[.pointer (some ⟨m.p, 0, none⟩), .agg #[.int .i64 k, .int .i64 n, .int .i64 t]] w fun e w' => ∃ m', e = .returned (.tuple #[]) ∧ PoolS B (N + 1) w' m' (s.did k n) ∧ Moved m m' w w' := by
  have hE := ext_alloc w (Obj.cells #[.int .i64 k, .int .i64 n, .int .i64 t] 33)
  have h1 := h.ext hE
  have hB1 : B ≤ (w.alloc (Obj.cells #[.int .i64 k, .int .i64 n, .int .i64 t] 33)).heap.size := Nat.le_trans hBw hE.size
  by_cases k0 : k = 0
  · have hd : s.did k n = s.allocS := if_pos k0
    rw [hd]
    subst k0
    have hc := alloc_any h1 hN hB1
    go_enter Try.func12, Try.ntmps12
    go_wp2_with fail
    refine hc.mono ?_
    rintro e w2 ⟨m', rfl, q1, q2⟩
    clear hc
    go_wp2
    go_end0
    exact ⟨m', rfl, q1, Moved.ext2 hE q2⟩
  by_cases k1 : k = 1
  · have hd : s.did k n = s.incS n := by unfold Pl.did; rw [if_neg k0, if_pos k1]
    rw [hd]
    subst k1
    have hc := inc_any h1 hN hB1 n
    go_enter Try.func12, Try.ntmps12
    go_wp2_with fail
    refine hc.mono ?_
    rintro e w2 ⟨m', rfl, q1, q2⟩
    clear hc
    go_wp2
    go_end0
    exact ⟨m', rfl, q1, Moved.ext2 hE q2⟩
  by_cases k2 : k = 2
  · have hd : s.did k n = s.decS n := by unfold Pl.did; rw [if_neg k0, if_neg k1, if_pos k2]
    rw [hd]
    subst k2
    have hc := dec_any h1 hN hB1 n
    go_enter Try.func12, Try.ntmps12
    go_wp2_with fail
    refine hc.mono ?_
    rintro e w2 ⟨m', rfl, q1, q2⟩
    clear hc
    go_wp2
    go_end0
    exact ⟨m', rfl, q1, Moved.ext2 hE q2⟩
  by_cases k10 : k = 10
  · have hd : s.did k n = s.settleS := by unfold Pl.did; rw [if_neg k0, if_neg k1, if_neg k2, if_pos k10]
    rw [hd]
    subst k10
    have hc := settle_any h1 hN hB1
    go_enter Try.func12, Try.ntmps12
    go_wp2_with fail
    refine hc.mono ?_
    rintro e w2 ⟨m', rfl, q1, q2⟩
    clear hc
    go_wp2
    go_end0
    exact ⟨m', rfl, q1.mono (Nat.le_succ _), Moved.ext2 hE q2⟩
  have hd : s.did k n = s := by unfold Pl.did; rw [if_neg k0, if_neg k1, if_neg k2, if_neg k10]
  rw [hd]
  have b0 : (k == 0) = false := by simpa using k0
  have b1 : (k == 1) = false := by simpa using k1
  have b2 : (k == 2) = false := by simpa using k2
  have b10 : (k == 10) = false := by simpa using k10
  go_enter Try.func12, Try.ntmps12
  go_wp2
  go_end0
  exact ⟨m, rfl, h1.mono (Nat.le_succ _), Moved.of_ext hE⟩
/-- How the law begins. -/
structure Bgn where
  ld : Bool
  pages : Int
  refs : Int
  cs : List Int
def Bgn.s (b : Bgn) : Pl := if b.ld = true then loadS b.refs b.cs else newS b.refs b.pages.toNat
def Bgn.e (b : Bgn) : Int := if b.ld = true then loadE b.refs b.cs else newE b.pages b.refs
theorem results_tmp3 {fn : Func} {t u v : Tmp} (h : fn.results = #[.tmp t, .tmp u, .tmp v]) (tmps : Array Value) (P : Program) (w : World) :
    (results fn tmps).run P w = .ok (.tuple #[tmps.getD t undef, tmps.getD u undef, tmps.getD v undef]) w := by
  simp [results, h]
theorem RefM.low {B B' : Nat} {w : World} {r : Rm} {refs : Int} {cnt : List Int} {last : List Bool} {az : List (Int × Int)} {fl : Int} (h : RefM B w r refs cnt last az fl) (hB : B' ≤ B) : RefM B' w r refs cnt last az fl :=
  ⟨h.hd, own_mono h.cn hB, own_mono h.la hB, own_mono h.ac hB, Nat.le_trans hB h.geP⟩
/-- Both pools, side by side. -/
structure Both (B N : Nat) (w : World) (m : Pm) (r : Rm) (s : Pl) : Prop where
  p : PoolS B N w m s
  q : RefS B N w r s
  apart : ∀ q, m.foot q → ¬ r.foot q
def Made (b : Bgn) (B : Nat) (w' : World) (v u : Value) : Prop := (¬ b.e = 0 ∧ v = .pointer none ∧ u = .pointer none) ∨ (b.e = 0 ∧ ∃ m r, v = .pointer (some ⟨m.p, 0, none⟩) ∧ u = .pointer (some ⟨r.p, 0, none⟩) ∧ Both B 0 w' m r b.s)
set_option maxRecDepth 100000 in
set_option maxHeartbeats 2000000 in
theorem made_any {w : World} {A : Option Addr} {c : Nat} (b : Bgn) (hx : NLi w A c b.cs) (hl : b.cs.length ≤ 17592186043904) :
    Calls Try.prog 11 #[.agg #[.bool b.ld, .int .i64 b.pages, .int .i64 b.refs, .slice A b.cs.length c]] w fun e w' => ∃ v u, e = .returned (.tuple #[v, u, .bool true]) ∧ Made b w.heap.size w' v u ∧ Ext w w' := by
  obtain ⟨ld, pages, refs, cs⟩ := b
  dsimp only at hx hl ⊢
  have hE1 := ext_alloc w (Obj.cells #[.bool ld, .int .i64 pages, .int .i64 refs, .slice A cs.length c] 24)
  have hsp := spareInts_any (hx.ext hE1) hl
  cases ld
  · -- New
    have hbe : (⟨false, pages, refs, cs⟩ : Bgn).e = newE pages refs := rfl
    have hbs : (⟨false, pages, refs, cs⟩ : Bgn).s = newS refs pages.toNat := rfl
    have HBE := Lib.hid hbe
    have HBS := Lib.hid hbs
    clear hbe hbs
    go_enter Try.func11, Try.ntmps11
    go_wp2_with fail
    refine hsp.mono ?_
    rintro e w2 ⟨rfl, hR, hE2⟩
    have hb2 := hE2.blk (heap_alloc_new w (Obj.cells #[.bool false, .int .i64 pages, .int .i64 refs, .slice A cs.length c] 24))
    have c0 := cell_of_row w2 w.heap.size 0 _ _ _ hb2
    have c1 := cell_of_row w2 w.heap.size 1 _ _ _ hb2
    have c2 := cell_of_row w2 w.heap.size 2 _ _ _ hb2
    simp only [List.getElem?_toArray, List.getElem?_cons_zero, List.getElem?_cons_succ] at c0 c1 c2
    have hEw2 := hE1.trans hE2
    have hs2 := hEw2.size
    clear hsp hR hE2
    go_wp2_with fail
    refine (new_pool (w := w2) pages refs).mono ?_
    rintro e w3 ⟨v, rfl, hE3, hv⟩
    have hb3 := hE3.blk hb2
    have c1 := cell_of_row w3 w.heap.size 1 _ _ _ hb3
    have c2 := cell_of_row w3 w.heap.size 2 _ _ _ hb3
    simp only [List.getElem?_toArray, List.getElem?_cons_zero, List.getElem?_cons_succ] at c1 c2
    have hs3 := hE3.size
    go_wp2_with fail
    refine (rnew_pool (w := w3) pages refs).mono ?_
    rintro e w4 ⟨u, rfl, hE4, hu⟩
    have hEw4 := hEw2.trans (hE3.trans hE4)
    have hbe : (newE pages refs == newE pages refs) = true := by simp
    obtain ⟨E, hEE⟩ : ∃ E, newE pages refs = E := ⟨_, rfl⟩
    rw [hEE] at hv hu hbe
    have HEE : Hid ((⟨false, pages, refs, cs⟩ : Bgn).e = E) := Lib.hid (HBE.out.trans hEE)
    rw [hEE]
    clear hEE hb2 hb3 c0 c1 c2
    rcases hv with ⟨hne, rfl⟩ | ⟨h0, m, rfl, hP⟩
    · rcases hu with ⟨_, rfl⟩ | ⟨h0, _⟩
      · have HNE := Lib.hid hne
        clear hne
        go_wp2
        refine bodyPost_ret (results_tmp3 rfl _ _ _) rfl ?_
        exact ⟨_, _, rfl, .inl ⟨by rw [HEE.out]; exact HNE.out, rfl, rfl⟩, hEw4⟩
      · exact absurd h0 hne
    · rcases hu with ⟨hne, _⟩ | ⟨_, r, rfl, hQ⟩
      · exact absurd h0 hne
      · have hBB : Both w.heap.size 0 w4 m r (newS refs pages.toNat) := by
          refine ⟨(hP.ext hE4).low (by omega), ⟨hQ.ok, hQ.mem.low (by omega)⟩, fun q hq hq2 => ?_⟩
          have h1 := (hP.foot_lt hq).2
          have h2 := (hQ.foot_lt hq2).1
          omega
        subst h0
        clear hP hQ
        go_wp2
        refine bodyPost_ret (results_tmp3 rfl _ _ _) rfl ?_
        exact ⟨_, _, rfl, .inr ⟨HEE.out, m, r, rfl, rfl, by rw [HBS.out]; exact hBB⟩, hEw4⟩
  · -- Load
    have hbe : (⟨true, pages, refs, cs⟩ : Bgn).e = loadE refs cs := rfl
    have hbs : (⟨true, pages, refs, cs⟩ : Bgn).s = loadS refs cs := rfl
    have HBE := Lib.hid hbe
    have HBS := Lib.hid hbs
    clear hbe hbs
    go_enter Try.func11, Try.ntmps11
    go_wp2_with fail
    refine hsp.mono ?_
    rintro e w2 ⟨rfl, hR, hE2⟩
    have hb2 := hE2.blk (heap_alloc_new w (Obj.cells #[.bool true, .int .i64 pages, .int .i64 refs, .slice A cs.length c] 24))
    have c0 := cell_of_row w2 w.heap.size 0 _ _ _ hb2
    have c2 := cell_of_row w2 w.heap.size 2 _ _ _ hb2
    simp only [List.getElem?_toArray, List.getElem?_cons_zero, List.getElem?_cons_succ] at c0 c2
    have hEw2 := hE1.trans hE2
    have hs2 := hEw2.size
    have hs2' := hE2.size
    rw [World.size_alloc] at hR hs2'
    rw [World.size_alloc]
    have hxs : NLi w2 (some ⟨w.heap.size + 1, 0, none⟩) (cs.length + 64) cs := RowI.front hR hx.bd
    have hgs : w.heap.size + 1 < w2.heap.size := (World.ownsRow.lt hR _ rfl).2
    clear hsp
    go_wp2_with fail
    refine (load_pool (w := w2) refs hxs (fun e => by cases e) (by omega)).mono ?_
    rintro e w3 ⟨v, rfl, hE3, hv⟩
    have hb3 := hE3.blk hb2
    have c2 := cell_of_row w3 w.heap.size 2 _ _ _ hb3
    have c3 := cell_of_row w3 w.heap.size 3 _ _ _ hb3
    simp only [List.getElem?_toArray, List.getElem?_cons_zero, List.getElem?_cons_succ] at c2 c3
    have hs3 := hE3.size
    go_wp2_with fail
    refine (rload_pool (w := w3) refs (hx.ext (hEw2.trans hE3)) (by omega)).mono ?_
    rintro e w4 ⟨u, rfl, hE4, hu⟩
    have hEw4 := hEw2.trans (hE3.trans hE4)
    have hb4 := hE4.blk hb3
    have hR4 := own_ext hR (hE3.trans hE4)
    have c3 := cell_of_row w4 w.heap.size 3 _ _ _ hb4
    simp only [List.getElem?_toArray, List.getElem?_cons_zero, List.getElem?_cons_succ] at c3
    have hbe : (loadE refs cs == loadE refs cs) = true := by simp
    have hbe2 : (loadE refs cs != loadE refs cs) = false := by simp
    have hkp := keptInts_any hR4 (hx.ext hEw4) hl
    obtain ⟨E, hEE⟩ : ∃ E, loadE refs cs = E := ⟨_, rfl⟩
    rw [hEE] at hv hu hbe hbe2
    have HEE : Hid ((⟨true, pages, refs, cs⟩ : Bgn).e = E) := Lib.hid (HBE.out.trans hEE)
    rw [hEE]
    have hs4 := hE4.size
    clear hEE hb2 hb3 c0 c2 hR hxs
    rcases hv with ⟨hne, rfl⟩ | ⟨h0, m, rfl, hP⟩
    · rcases hu with ⟨_, rfl⟩ | ⟨h0, _⟩
      · have HMM : Hid (∀ W, Exc (fun q _ => q = w.heap.size + 1) w4 W → Made ⟨true, pages, refs, cs⟩ w.heap.size W (.pointer none) (.pointer none)) := Lib.hid (fun W hW => .inl ⟨by rw [HEE.out]; exact hne, rfl, rfl⟩)
        clear hne
        go_wp2_with fail
        refine hkp.mono ?_
        rintro e w5 ⟨rfl, hE5⟩
        have hR5 := own_ext hR4 hE5
        have hfl := full_len cs
        rw [hfl] at hR5
        have hR5' : w5.ownsRow (w.heap.size + 1) 3 1 (.slice (some ⟨w.heap.size + 1, 0, none⟩) (cs.length + 64) (cs.length + 64)) (cs.length + 64) (ic (fullL cs)) := hR5
        clear hkp hb4 c3 hR4 hR5 hfl
        go_wp2
        go_loopw [10] (fun i wr => ∃ (k : Nat) (xs : List Value), k ≤ cs.length ∧ i = .int .i64 k ∧ wr.ownsRow (w.heap.size + 1) 3 1 (.slice (some ⟨w.heap.size + 1, 0, none⟩) (cs.length + 64) (cs.length + 64)) (cs.length + 64) xs ∧ Exc (fun q _ => q = w.heap.size + 1) w5 wr) (fun i _ => cs.length - (intOf i).toNat)
        case atStart => exact ⟨0, _, Nat.zero_le _, rfl, hR5', exc_refl _ _⟩
        case round =>
          clear hR5'
          obtain ⟨k, xs, hk, rfl, hRR, hX⟩ := hrel
          rename World => v1
          by_cases hkl : k < cs.length
          · have hxl := hRR.1
            obtain ⟨z, hz⟩ : ∃ z, xs[k]? = some z := ⟨_, List.getElem?_eq_getElem (by omega)⟩
            have q1 : v1.cell? ⟨w.heap.size + 1, k, none⟩ = some z := by rw [World.ownsRow.cellAt hRR _ (by omega), hz]
            have f1 : v1.frozen? ⟨w.heap.size + 1, k, none⟩ = false := World.ownsRow.frozenAt hRR k
            have hst := (World.ownsRow.stored hRR k (.int .i64 77)).1
            have hX2 := hX.trans (setCell_excp v1 (w.heap.size + 1) k (.int .i64 77))
            clear hz hxl hRR hX
            go_wp2
            go_roundw
            case rel => exact ⟨k + 1, _, by omega, by go_num, hst, hX2⟩
            case measure => simp [intOf]; omega
          · obtain rfl : k = cs.length := by omega
            have hE9 : Ext w v1 := hX.to_ext (hEw4.trans hE5) (fun q o e => by omega)
            have hM9 := HMM.out v1 ((Exc.of_ext hE5).trans hX)
            clear hRR hX
            go_wp2
            refine bodyPost_ret (results_tmp3 rfl _ _ _) rfl ?_
            exact ⟨_, _, rfl, hM9, hE9⟩
      · exact absurd h0 hne
    · rcases hu with ⟨hne, _⟩ | ⟨_, r, rfl, hQ⟩
      · exact absurd h0 hne
      · have HMM : Hid (∀ W, Exc (fun q _ => q = w.heap.size + 1) w4 W → Made ⟨true, pages, refs, cs⟩ w.heap.size W (.pointer (some ⟨m.p, 0, none⟩)) (.pointer (some ⟨r.p, 0, none⟩))) := Lib.hid (fun W hW => .inr ⟨by rw [HEE.out]; exact h0, m, r, rfl, rfl, by
          rw [HBS.out]
          refine ⟨((hP.ext hE4).exc hW (fun q o hq e => ?_)).low (by omega), ⟨hQ.ok, (hQ.mem.exc hW (fun q o hq e => ?_)).low (by omega)⟩, fun q hq hq2 => ?_⟩
          · have := (hP.foot_lt hq).1
            omega
          · have := (hQ.foot_lt hq).1
            omega
          · have h1 := (hP.foot_lt hq).2
            have h2 := (hQ.foot_lt hq2).1
            omega⟩)
        clear hP hQ
        subst h0
        go_wp2_with fail
        refine hkp.mono ?_
        rintro e w5 ⟨rfl, hE5⟩
        have hR5 := own_ext hR4 hE5
        have hfl := full_len cs
        rw [hfl] at hR5
        have hR5' : w5.ownsRow (w.heap.size + 1) 3 1 (.slice (some ⟨w.heap.size + 1, 0, none⟩) (cs.length + 64) (cs.length + 64)) (cs.length + 64) (ic (fullL cs)) := hR5
        clear hkp hb4 c3 hR4 hR5 hfl
        go_wp2
        go_loopw [10] (fun i wr => ∃ (k : Nat) (xs : List Value), k ≤ cs.length ∧ i = .int .i64 k ∧ wr.ownsRow (w.heap.size + 1) 3 1 (.slice (some ⟨w.heap.size + 1, 0, none⟩) (cs.length + 64) (cs.length + 64)) (cs.length + 64) xs ∧ Exc (fun q _ => q = w.heap.size + 1) w5 wr) (fun i _ => cs.length - (intOf i).toNat)
        case atStart => exact ⟨0, _, Nat.zero_le _, rfl, hR5', exc_refl _ _⟩
        case round =>
          clear hR5'
          obtain ⟨k, xs, hk, rfl, hRR, hX⟩ := hrel
          rename World => v1
          by_cases hkl : k < cs.length
          · have hxl := hRR.1
            obtain ⟨z, hz⟩ : ∃ z, xs[k]? = some z := ⟨_, List.getElem?_eq_getElem (by omega)⟩
            have q1 : v1.cell? ⟨w.heap.size + 1, k, none⟩ = some z := by rw [World.ownsRow.cellAt hRR _ (by omega), hz]
            have f1 : v1.frozen? ⟨w.heap.size + 1, k, none⟩ = false := World.ownsRow.frozenAt hRR k
            have hst := (World.ownsRow.stored hRR k (.int .i64 77)).1
            have hX2 := hX.trans (setCell_excp v1 (w.heap.size + 1) k (.int .i64 77))
            clear hz hxl hRR hX
            go_wp2
            go_roundw
            case rel => exact ⟨k + 1, _, by omega, by go_num, hst, hX2⟩
            case measure => simp [intOf]; omega
          · obtain rfl : k = cs.length := by omega
            have hE9 : Ext w v1 := hX.to_ext (hEw4.trans hE5) (fun q o e => by omega)
            have hM9 := HMM.out v1 ((Exc.of_ext hE5).trans hX)
            clear hRR hX
            go_wp2
            refine bodyPost_ret (results_tmp3 rfl _ _ _) rfl ?_
            exact ⟨_, _, rfl, hM9, hE9⟩
end Go.Proofs.Ytaalhicdeibodaa
