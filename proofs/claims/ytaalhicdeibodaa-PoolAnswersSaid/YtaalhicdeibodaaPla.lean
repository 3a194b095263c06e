/- Layer 10: the walk of PoolAnswers. No condition but the sizes. -/
import Derived.Test.YtaalhicdeibodaaPaq
namespace Go.Proofs.Ytaalhicdeibodaa
open Go.RowKit Go.Proofs Go.Shelf
set_option linter.unusedVariables false
/-- How great what is kept may be. -/
structure LB (x : Lw) (k : Nat) : Prop where
  m1 : x.mks.length ≤ k
  m2 : ∀ z ∈ x.mks, 0 ≤ z ∧ z ≤ 100000
  h1 : x.hs.length ≤ 40
  l1 : ∀ l ∈ x.ls, l.length ≤ 65536 ∧ ∀ z ∈ l, -9223372036854775808 ≤ z ∧ z ≤ 9223372036854775807
  k1 : ∃ g, x.Ak = some ⟨g, 0, none⟩
theorem LB.mono {x : Lw} {k k' : Nat} (h : LB x k) (hk : k ≤ k') : LB x k' := ⟨Nat.le_trans h.m1 hk, h.m2, h.h1, h.l1, h.k1⟩
theorem St.next {w : World} {B N M Up Up' : Nat} {V : World} {m0 m : Pm} {r0 r : Rm} {s1 s2 : Pl} {x : Lw} (h : St w B N Up V m0 r0 m r s1 s2 x) (hN : N ≤ M) (hU : Up ≤ Up') : St w B M Up' V m0 r0 m r s1 s2 x := ⟨h.pq.mono hN, h.kp.up hU⟩
theorem St.marked {w : World} {B N Up : Nat} {V V' : World} {m0 m : Pm} {r0 r : Rm} {s1 s2 : Pl} {x : Lw} (h : St w B N Up V m0 r0 m r s1 s2 x) {y : Int} {A3 : Option Addr} {c3 : Nat}
    (ho : V'.ownsRow B 3 1 (.slice A3 (x.mks.length + 1) c3) (x.mks.length + 1) (ic x.mks ++ [.int .i64 y]))
    (hc : (∃ A' c', Value.slice x.MA x.mks.length x.mc = .slice A' x.mks.length c' ∧ Value.slice A3 (x.mks.length + 1) c3 = .slice A' (x.mks.length + 1) c' ∧ V.grownBy V' (Value.slice x.MA x.mks.length x.mc).ownBlock) ∨ (V.grownBy V' none ∧ ∀ g, (Value.slice A3 (x.mks.length + 1) c3).ownBlock = some g → V.heap.size ≤ g)) :
    St w B N Up V' m0 r0 m r s1 s2 { x with MA := A3, mc := c3, mks := x.mks ++ [y] } := by
  obtain ⟨hx, hb⟩ := dr_step hc
  refine ⟨h.pq.keep hx (fun q hq => ⟨h.kp.mo q hq, (own_blt h.kp.mr hq).1⟩), h.kp.mark (fun q hq => (h.pq.lf hq).2) ?_ hx hb⟩
  unfold RowI
  rw [List.length_append, show ic (x.mks ++ [y]) = ic x.mks ++ [.int .i64 y] by simp [ic]]
  exact ho
theorem St.keptL {w : World} {B N Up Up' : Nat} {V V' : World} {m0 m : Pm} {r0 r : Rm} {s1 s2 : Pl} {x : Lw} {lk lw : List (List Int)} (hp : PQ w B N V m0 r0 m r s1 s2) (h : Kp B Up (LF m r) V x.MA x.mc x.mks x.Ak x.ck x.hs x.Aw x.cw x.ws lk lw) {hd : Hd} {l : List Int} {A3 : Option Addr} {c3 : Nat} (hu : Up ≤ Up') (h1 : hd.k = l.length) (h2 : RowI B V hd.A hd.c l) (h3 : ∀ q, blkOf hd.A = some q → ¬ LF m r q ∧ blkOf x.MA ≠ some q ∧ q < Up') (h4 : ∀ q, blkOf hd.A = some q → Up ≤ q)
    (ho : V'.ownsRow B 22 1 (.slice A3 (x.hs.length + 1) c3) (x.hs.length + 1) (x.hs.map Hd.v ++ [hd.v]))
    (hc : (∃ A' c', Value.slice x.Ak x.hs.length x.ck = .slice A' x.hs.length c' ∧ Value.slice A3 (x.hs.length + 1) c3 = .slice A' (x.hs.length + 1) c' ∧ V.grownBy V' (Value.slice x.Ak x.hs.length x.ck).ownBlock) ∨ (V.grownBy V' none ∧ ∀ g, (Value.slice A3 (x.hs.length + 1) c3).ownBlock = some g → V.heap.size ≤ g)) :
    PQ w B N V' m0 r0 m r s1 s2 ∧ Kp B Up' (LF m r) V' x.MA x.mc x.mks A3 c3 (x.hs ++ [hd]) x.Aw x.cw x.ws (lk ++ [l]) lw ∧ Exc (fun q _ => DR x.Ak V.heap.size q) V V' := by
  obtain ⟨hx, hb⟩ := dr_step hc
  exact ⟨hp.keep hx (fun q hq => ⟨h.ko q hq, (own_blt h.kr hq).1⟩), h.keptL (fun q hq => (hp.lf hq).2) hu h1 h2 h3 h4 ho hx hb, hx⟩
theorem St.wantL {w : World} {B N Up : Nat} {V V' : World} {m0 m : Pm} {r0 r : Rm} {s1 s2 : Pl} {x : Lw} {Ak : Option Addr} {ck : Nat} {hs : List Hd} {lk lw : List (List Int)} (hp : PQ w B N V m0 r0 m r s1 s2) (h : Kp B Up (LF m r) V x.MA x.mc x.mks Ak ck hs x.Aw x.cw x.ws lk lw) {hd : Hd} {l : List Int} {A3 : Option Addr} {c3 : Nat} (h1 : hd.k = l.length) (h2 : RowI B V hd.A hd.c l) (h3 : ∀ q, blkOf hd.A = some q → ¬ LF m r q ∧ blkOf x.MA ≠ some q ∧ q < Up)
    (ho : V'.ownsRow B 22 1 (.slice A3 (x.ws.length + 1) c3) (x.ws.length + 1) (x.ws.map Hd.v ++ [hd.v]))
    (hc : (∃ A' c', Value.slice x.Aw x.ws.length x.cw = .slice A' x.ws.length c' ∧ Value.slice A3 (x.ws.length + 1) c3 = .slice A' (x.ws.length + 1) c' ∧ V.grownBy V' (Value.slice x.Aw x.ws.length x.cw).ownBlock) ∨ (V.grownBy V' none ∧ ∀ g, (Value.slice A3 (x.ws.length + 1) c3).ownBlock = some g → V.heap.size ≤ g)) :
    PQ w B N V' m0 r0 m r s1 s2 ∧ Kp B Up (LF m r) V' x.MA x.mc x.mks Ak ck hs A3 c3 (x.ws ++ [hd]) lk (lw ++ [l]) := by
  obtain ⟨hx, hb⟩ := dr_step hc
  exact ⟨hp.keep hx (fun q hq => ⟨h.wo q hq, (own_blt h.wr hq).1⟩), h.wantL (fun q hq => (hp.lf hq).2) h1 h2 h3 ho hx hb⟩
theorem news_sl (w : World) (v : Value) : ∀ j u, [v][j]? = some u → (w.alloc (.cells #[v] 22)).cell? ((⟨w.heap.size, 0, none⟩ : Addr).add j) = some u := news_row w [v] 22 (0, 0)
set_option maxRecDepth 100000 in
set_option maxHeartbeats 4000000 in
theorem panswers_any {w : World} {v : Value} {b : Bgn} {A0 : Option Addr} {c0 : Nat} {l : List Opp} (hb : BgV w v b) (hl0 : OPP w A0 c0 l) :
    Calls Try.prog 7 #[v, .slice A0 l.length c0] w fun e w' => e = .returned (.bool true) ∧ Ext w w' := by
  obtain ⟨⟨A, c, rfl, hx, hl⟩⟩ := hb
  obtain ⟨i0, hi, hz0, hz1, hz2⟩ := info_split infoI
  obtain ⟨i1, hi1, hy0, hy1, hy2⟩ := info_split infoSlI
  have hE1 := ext_alloc w (Obj.cells #[.bool b.ld, .int .i64 b.pages, .int .i64 b.refs, .slice A b.cs.length c] 24)
  have hbn := heap_alloc_new w (Obj.cells #[.bool b.ld, .int .i64 b.pages, .int .i64 b.refs, .slice A b.cs.length c] 24)
  have hf := fixed_any (w := w.alloc (Obj.cells #[.bool b.ld, .int .i64 b.pages, .int .i64 b.refs, .slice A b.cs.length c] 24))
  obtain ⟨N, hN⟩ : ∃ N, min l.length 60 = N := ⟨_, rfl⟩
  have hL := hl0.cut N
  have hln : (l.take N).length = N := by rw [List.length_take]; omega
  have hmn : (if (60 : Int) < (l.length : Int) then 60 else (l.length : Int)) = (N : Int) := by split <;> omega
  have hnl : N ≤ l.length := by omega
  have hn2 : N ≤ 60 := by omega
  have hlc := hl0.le
  have hcap := hl0.cap
  have hnc : N ≤ c0 := by omega
  obtain ⟨L, hLL⟩ : ∃ L, l.take N = L := ⟨_, rfl⟩
  rw [hLL] at hL hln
  have HLN := Lib.hid hln
  clear hN hln hLL hl0
  go_enter Try.func7, Try.ntmps7
  go_wp2_with fail
  refine hf.mono ?_
  rintro e w2 ⟨rfl, hE2⟩
  have hb2 := hE2.blk hbn
  have d0 := cell_of_row w2 w.heap.size 0 _ _ _ hb2
  have d1 := cell_of_row w2 w.heap.size 1 _ _ _ hb2
  have d2 := cell_of_row w2 w.heap.size 2 _ _ _ hb2
  have d3 := cell_of_row w2 w.heap.size 3 _ _ _ hb2
  simp only [List.getElem?_toArray, List.getElem?_cons_zero, List.getElem?_cons_succ] at d0 d1 d2 d3
  have hE12 := hE1.trans hE2
  have hm := made_any b (hx.ext hE12) hl
  clear hf hbn hb2 hE1 hE2
  go_wp2_with fail
  refine hm.mono ?_
  rintro e w3 ⟨v, u, rfl, hmd, hE3⟩
  have hE13 := hE12.trans hE3
  have hBs := hE12.size
  have hBs3 := hE3.size
  clear hm d0 d1 d2 d3 hE12
  rcases hmd with ⟨_, rfl, rfl⟩ | ⟨_, m, r, rfl, rfl, hBo⟩
  · go_wp2
    go_ret
    exact ⟨rfl, hE13⟩
  · have hE14 := (hE13.trans (ext_alloc w3 (Obj.cells #[] 22))).trans (ext_alloc (w3.alloc (Obj.cells #[] 22)) (Obj.cells #[] 22))
    have hlit1 := World.ownsRow_lit (base := w3.heap.size) (e := 22) (size := 1) w3 #[] 0 (by simp) (by decide) rfl
    have hlit2 := World.ownsRow_lit (base := w3.heap.size + 1) (e := 22) (size := 1) (w3.alloc (Obj.cells #[] 22)) #[] 0 (by simp) (by decide) rfl
    have hSt : St w w2.heap.size 0 ((w3.alloc (Obj.cells #[] 22)).alloc (Obj.cells #[] 22)).heap.size ((w3.alloc (Obj.cells #[] 22)).alloc (Obj.cells #[] 22)) m r m r b.s b.s ⟨none, 0, [], some ⟨w3.heap.size, 0, none⟩, 0, [], some ⟨w3.heap.size + 1, 0, none⟩, 0, [], []⟩ := by
      have hEe := (ext_alloc w3 (Obj.cells #[] 22)).trans (ext_alloc (w3.alloc (Obj.cells #[] 22)) (Obj.cells #[] 22))
      have hlf : ∀ q, LF m r q → q < w3.heap.size := fun q hq => hq.elim (fun h => (hBo.p.foot_lt h).2) (fun h => (hBo.q.foot_lt h).2)
      refine ⟨⟨hBo.p.ext hEe, hBo.q.ext hEe, hBo.apart, rfl, rfl, hE14, hBs, Nat.le_trans hBs3 hEe.size⟩, ⟨rowI_nil _ _, fun q hq => (by cases hq), own_mono (own_ext hlit1 (ext_alloc _ _)) hBs3, fun q hq e => ?_, ?_, fun q hq e => ?_, fun q hq e => ?_, ⟨rfl, fun j h hj => (by cases hj)⟩, ⟨rfl, fun j h hj => (by cases hj)⟩, fun j1 j2 h1 h2 q e => (by cases e)⟩⟩
      · have := hlf q e
        injection hq with hq
        dsimp only at hq
        omega
      · rw [World.size_alloc] at hlit2
        exact own_mono hlit2 (by omega)
      · have := hlf q e
        injection hq with hq
        dsimp only at hq
        omega
      · injection hq with hq
        injection e with e
        dsimp only at hq e
        omega
    have hLB0 : LB ⟨none, 0, [], some ⟨w3.heap.size, 0, none⟩, 0, [], some ⟨w3.heap.size + 1, 0, none⟩, 0, [], []⟩ 0 := ⟨by simp, fun z hz => (by cases hz), by simp, fun l hl => (by cases hl), _, rfl⟩
    obtain ⟨sb, hsb⟩ : ∃ s, b.s = s := ⟨_, rfl⟩
    rw [hsb] at hSt
    have hBlo : w.heap.size ≤ w2.heap.size := hBs
    clear hsb hlit1 hlit2 hE14 hE13 hE3 hBo
    go_wp2
    go_loopw [8, 9, 10, 11] (fun va vb vc i wr => ∃ (k : Nat) (m' : Pm) (r' : Rm) (s : Pl) (x : Lw), k ≤ N ∧ i = .int .i64 k ∧ va = .slice x.MA x.mks.length x.mc ∧ vb = .slice x.Ak x.hs.length x.ck ∧ vc = .slice x.Aw x.ws.length x.cw ∧ St w w2.heap.size (2 * k) wr.heap.size wr m r m' r' s s x ∧ LB x k) (fun _ _ _ i _ => N - (intOf i).toNat)
    case atStart => exact ⟨0, m, r, sb, _, by omega, rfl, rfl, rfl, rfl, hSt, hLB0⟩
    case round =>
      clear hSt hLB0
      obtain ⟨k, m', r', s, x, hk, rfl, rfl, rfl, rfl, hS, hLB⟩ := hrel
      have hm1 := hLB.m1
      have hh1 := hLB.h1
      by_cases hkN : k < N
      · have hki : (k : Int) < (N : Int) := by omega
        obtain ⟨o, ho⟩ : ∃ o, L[k]? = some o := ⟨_, List.getElem?_eq_getElem (by rw [HLN.out]; exact hkN)⟩
        obtain ⟨bb, off, hbb, hbl, hcl0⟩ := hL.rd (by rw [HLN.out]; omega)
        subst hbb
        have hcl : ∀ V, Ext w V → V.cell? ⟨bb, off + k * 3, none⟩ = some (.int .i64 o.k) ∧ V.cell? ⟨bb, off + k * 3 + 1, none⟩ = some (.int .i64 o.n) ∧ V.cell? ⟨bb, off + k * 3 + 2, none⟩ = some (.int .i64 o.t) := fun V hV => ⟨hV.cell (hcl0 k o ho).1, hV.cell (hcl0 k o ho).2.1, hV.cell (hcl0 k o ho).2.2⟩
        obtain ⟨z0, z1, z2⟩ := hcl wr hS.pq.ex
        have hkc : k < c0 := by omega
        have hab := ans_bd hS.pq.p.ok o.k o.n o.t x.mks
        obtain ⟨a, haa⟩ : ∃ a, s.askA o.k o.n o.t x.mks = a := ⟨_, rfl⟩
        obtain ⟨s2, hs2⟩ : ∃ s2, s.askS o.k o.n x.mks = s2 := ⟨_, rfl⟩
        rw [haa] at hab
        have HAA := Lib.hid haa
        have HS2 := Lib.hid hs2
        have hflt : ∀ q, LF m' r' q → q < wr.heap.size := fun q hq => (hS.pq.lf hq).2
        have hhi := hS.pq.hi
        have hmaU : ∀ q, blkOf x.MA = some q → q < wr.heap.size := fun q hq => (own_blt hS.kp.mr hq).2
        have hn8 : o.k = 8 → 0 ≤ a.n ∧ a.n ≤ 100000 := fun e => by
          rw [← haa, e]
          show 0 ≤ (s.acts.length : Int) ∧ (s.acts.length : Int) ≤ 100000
          have := hS.pq.p.ok.acts
          omega
        clear haa hs2 hcl0
        go_wp2
        refine wp_region_rg (Exa w2.heap.size wr.heap.size) (rel_exa _ _) (fun V => St w w2.heap.size (2 * k) wr.heap.size V m r m' r' s s x) [0, 1, 2, 3, 4, 5, 7, 8, 9, 10, 11, 12, 14, 15, 6, 13, 16, 17] (fun i => match i with
          | 14 => some fun _ z V => AnCell wr.heap.size z V
          | 15 => some fun _ z V => AnCell wr.heap.size z V
          | _ => none) (fun i => match i with
          | 6 => some fun _ z V => QA w w2.heap.size (2 * k + 1) wr.heap.size wr.heap.size m r s2 s x o.k a z V
          | 13 => some fun U z V => QB w w2.heap.size (2 * k + 1 + 1) wr.heap.size wr.heap.size m r s2 s2 x o.k a (U 6) z V
          | 16 => some fun U z V => QC w w2.heap.size (2 * k + 1 + 1) wr.heap.size wr.heap.size m r s2 s2 x o.k a (U 6) (U 13) (U 14) V
          | 17 => some fun U z V => QD w w2.heap.size (2 * k + 1 + 1) wr.heap.size wr.heap.size m r s2 s2 x o.k a (U 6) (U 13) (U 14) (U 15) V
          | _ => none) (fun _ => false) (by kernel_rfl) (by kernel_rfl) (fun _ _ h he => h.ext he) (hS.ext (Below.refl _ _).drew) (fun W Nn hW hF0 hN => ?_)
        have hWs := hW.size
        have hEW : Exa w2.heap.size wr.heap.size W W := Exa.of_ext (Below.refl _ _)
        have c0' : ∀ w', Exa w2.heap.size wr.heap.size W w' → w'.cell? ⟨bb, off + k * 3, none⟩ = some (.int .i64 o.k) := fun w' hh => cell_exc hh.x (hW.cell z0) (fun _ e => by have := e.1; omega)
        have c1' : ∀ w', Exa w2.heap.size wr.heap.size W w' → w'.cell? ⟨bb, off + k * 3 + 1, none⟩ = some (.int .i64 o.n) := fun w' hh => cell_exc hh.x (hW.cell z1) (fun _ e => by have := e.1; omega)
        have c2' : ∀ w', Exa w2.heap.size wr.heap.size W w' → w'.cell? ⟨bb, off + k * 3 + 2, none⟩ = some (.int .i64 o.t) := fun w' hh => cell_exc hh.x (hW.cell z2) (fun _ e => by have := e.1; omega)
        repeat (first | (apply wpR_one; (case ho => (simp only [List.getElem?_toArray, List.getElem?_cons_succ, List.getElem?_cons_zero]; try exact rfl)); (case hw => rfl); (case hl => rfl); (case hsp => rfl); (case he => rfl); (case hv => (intro w' hw'; go_simp; exact rfl)); (case hw0 => exact Exa.of_ext (Below.refl _ _)); simp only [Act.put, List.setIfInBounds_toArray, List.set_cons_succ, List.set_cons_zero]) | (apply wpR_pass; (case ho => (simp only [List.getElem?_toArray, List.getElem?_cons_succ, List.getElem?_cons_zero]; try exact rfl)); (case hw => rfl); (case hl => rfl); simp only [Act.put, List.setIfInBounds_toArray, List.set_cons_succ, List.set_cons_zero]))
        refine wpR_alloc (by ((simp only [List.getElem?_toArray, List.getElem?_cons_succ, List.getElem?_cons_zero]; try exact rfl))) _ rfl rfl rfl (fun V v => AnCell.lasts (Nat.le_refl _) _) (fun V V' h => rfl) (fun w' hw' hK => ?_) (fun v hv => ?_)
        · have hXs := hw'.x.size
          clear c0' c1' c2'
          unfold opAt
          go_simp
          exact upAt_value ⟨ext_alloc _ _, ⟨_, rfl, Nat.le_trans hWs hXs, _, heap_alloc_new _ _, rfl⟩, fun _ g hg => by injection hg with hg; exact ⟨hg.symm, by simp⟩⟩
        obtain ⟨g1, rfl⟩ : ∃ g, v = .pointer (some ⟨g, 0, none⟩) := by
          obtain ⟨_, _, _, g, e, _⟩ := hv
          exact ⟨g, e⟩
        clear hv
        simp only [Act.put, List.setIfInBounds_toArray, List.set_cons_succ, List.set_cons_zero]
        refine wpR_alloc (by ((simp only [List.getElem?_toArray, List.getElem?_cons_succ, List.getElem?_cons_zero]; try exact rfl))) _ rfl rfl rfl (fun V v => AnCell.lasts (Nat.le_refl _) _) (fun V V' h => rfl) (fun w' hw' hK => ?_) (fun v hv => ?_)
        · have hXs := hw'.x.size
          clear c0' c1' c2'
          unfold opAt
          go_simp
          exact upAt_value ⟨ext_alloc _ _, ⟨_, rfl, Nat.le_trans hWs hXs, _, heap_alloc_new _ _, rfl⟩, fun _ g hg => by injection hg with hg; exact ⟨hg.symm, by simp⟩⟩
        obtain ⟨g2, rfl⟩ : ∃ g, v = .pointer (some ⟨g, 0, none⟩) := by
          obtain ⟨_, _, _, g, e, _⟩ := hv
          exact ⟨g, e⟩
        clear hv
        simp only [Act.put, List.setIfInBounds_toArray, List.set_cons_succ, List.set_cons_zero]
        refine wpR_late (by ((simp only [List.getElem?_toArray, List.getElem?_cons_succ, List.getElem?_cons_zero]; try exact rfl))) _ rfl rfl (fun V v => QA.lasts _) (fun V V' h => rfl) (fun w' hw' hK hF => ?_) (fun v hv => ?_)
        · have hF2 : St w w2.heap.size (2 * k) wr.heap.size w' m r m' r' s s x := hF
          have hXs := hw'.x.size
          have hc := quart1 (N0 := wr.heap.size) hF2 (by omega) (Nat.le_trans hWs hXs) hflt o hLB.m2 (by omega)
          rw [HAA.out, HS2.out] at hc
          clear c0' c1' c2' z0 z1 z2
          unfold opAt; go_simp; refine upAt_enter ?_
          refine hc.mono ?_
          rintro e w8 ⟨z, rfl, h1, h2⟩
          exact ⟨_, rfl, h1, h2⟩
        obtain ⟨A6, c6, rfl⟩ : ∃ A c, v = a.v A c := by
          obtain ⟨_, _, _, _, A, c, e, _⟩ := hv
          exact ⟨A, c, e⟩
        clear hv
        simp only [Act.put, List.setIfInBounds_toArray, List.set_cons_succ, List.set_cons_zero]
        refine wpR_late (by ((simp only [List.getElem?_toArray, List.getElem?_cons_succ, List.getElem?_cons_zero]; try exact rfl))) _ rfl rfl (fun V v => QB.lasts _ _) (fun V V' h => by have := h 6 (by kernel_rfl); simp only [this]) (fun w' hw' hK hF => ?_) (fun v hv => ?_)
        · have hF2 : QA w w2.heap.size (2 * k + 1) wr.heap.size wr.heap.size m r s2 s x o.k a (a.v A6 c6) w' := hF
          have hXs := hw'.x.size
          have hc := quart2 hF2 (by omega) (Nat.le_trans hWs hXs) o rfl hLB.m2 (by omega) HAA.out
          rw [HS2.out] at hc
          clear c0' c1' c2' z0 z1 z2
          unfold opAt; go_simp; refine upAt_enter ?_
          refine hc.mono ?_
          rintro e w8 ⟨z, rfl, h1, h2⟩
          exact ⟨_, rfl, h1, h2⟩
        obtain ⟨A7, c7, rfl⟩ : ∃ A c, v = a.v A c := by
          obtain ⟨_, _, _, _, _, _, A, c, _, e, _⟩ := hv
          exact ⟨A, c, e⟩
        clear hv
        simp only [Act.put, List.setIfInBounds_toArray, List.set_cons_succ, List.set_cons_zero]
        refine wpR_late (by ((simp only [List.getElem?_toArray, List.getElem?_cons_succ, List.getElem?_cons_zero]; try exact rfl))) _ rfl rfl (fun V v => QC.lasts _ _ _) (fun V V' h => by simp only [h 6 (by kernel_rfl), h 13 (by kernel_rfl), h 14 (by kernel_rfl)]) (fun w' hw' hK hF => ?_) (fun v hv => ?_)
        · obtain ⟨g, e8, hg8, cs, hb8, hs8⟩ := (hK 14 (by kernel_rfl)).2
          obtain rfl : g1 = g := by simpa using (show Value.pointer (some ⟨g1, 0, none⟩) = _ from e8)
          have hF2 : QB w w2.heap.size (2 * k + 1 + 1) wr.heap.size wr.heap.size m r s2 s2 x o.k a (a.v A6 c6) (a.v A7 c7) w' := hF
          clear c0' c1' c2' z0 z1 z2
          refine opAt_list rfl #[] (fun Q hQ => ?_)
          refine wpList_store_box rfl 54 _ _ rfl g1 _ rfl rfl 54 _ hb8 (by kernel_rfl) hs8 (by simp [Value.oneCell']) (fun w4 hb hg => ?_)
          exact hQ _ _ ⟨Exa.of_box hg hb8 hb (by rw [hs8]; rfl) (by omega), hF2.box hb8 hg (by omega), g1, _, rfl, hg8, rfl, hb⟩
        clear hv
        simp only [Act.put, List.setIfInBounds_toArray, List.set_cons_succ, List.set_cons_zero]
        refine wpR_lateP (by ((simp only [List.getElem?_toArray, List.getElem?_cons_succ, List.getElem?_cons_zero]; try exact rfl))) _ rfl rfl (fun V v => QD.lasts _ _ _ _) (fun V V' h => by simp only [h 6 (by kernel_rfl), h 13 (by kernel_rfl), h 14 (by kernel_rfl), h 15 (by kernel_rfl)]) (fun w' hw' hK hF hP => ?_) (fun v hv => ?_)
        · obtain ⟨g, e9, hg9, cs, hb9, hs9⟩ := (hK 15 (by kernel_rfl)).2
          obtain rfl : g2 = g := by simpa using (show Value.pointer (some ⟨g2, 0, none⟩) = _ from e9)
          have hne : g1 ≠ g2 := fun e => hP 14 15 (by kernel_rfl) (by kernel_rfl) (by decide) (by kernel_rfl) (by kernel_rfl) g1 rfl (by rw [e]; rfl)
          have hF2 : QC w w2.heap.size (2 * k + 1 + 1) wr.heap.size wr.heap.size m r s2 s2 x o.k a (a.v A6 c6) (a.v A7 c7) (.pointer (some ⟨g1, 0, none⟩)) w' := hF
          obtain ⟨hQB, g', cs', e10, hg10, e11, hb10⟩ := hF2
          obtain rfl : g1 = g' := by simpa using e10
          clear c0' c1' c2' z0 z1 z2
          refine opAt_list rfl #[] (fun Q hQ => ?_)
          refine wpList_store_box rfl 54 _ _ rfl g2 _ rfl rfl 54 _ hb9 (by kernel_rfl) hs9 (by simp [Value.oneCell']) (fun w4 hb hg => ?_)
          exact hQ _ _ ⟨Exa.of_box hg hb9 hb (by rw [hs9]; rfl) (by omega), hQB.box hb9 hg (by omega), ⟨g1, _, rfl, hg10, e11, blk_other hb10 hg hne⟩, ⟨g2, _, rfl, hg9, rfl, hb⟩, fun e => hne (by simpa using (show Value.pointer (some ⟨g1, 0, none⟩) = Value.pointer (some ⟨g2, 0, none⟩) from e))⟩
        clear hv
        simp only [Act.put, List.setIfInBounds_toArray, List.set_cons_succ, List.set_cons_zero]
        apply wpR_nil
        apply hN
        intro w4 hE' hK hF
        obtain ⟨⟨m8, r8, A8, c8, A9, c9, e8, e9, hS8, hR8, hR9, hoff⟩, ⟨g1', cs1, e1, hg1, e2, hb1⟩, ⟨g2', cs2, e3, hg2, e4, hb2⟩, hne⟩ : QD w w2.heap.size (2 * k + 1 + 1) wr.heap.size wr.heap.size m r s2 s2 x o.k a (a.v A6 c6) (a.v A7 c7) (.pointer (some ⟨g1, 0, none⟩)) (.pointer (some ⟨g2, 0, none⟩)) w4 := hF
        obtain ⟨rfl, rfl⟩ := Ans.v_inj e8
        obtain ⟨rfl, rfl⟩ := Ans.v_inj e9
        obtain rfl : g1 = g1' := by simpa using e1
        obtain rfl : g2 = g2' := by simpa using e3
        unfold Ans.v at e2 e4
        injection e2 with e2
        injection e4 with e4
        subst e2 e4
        have y0 := cell_of_row w4 g1 0 _ _ _ hb1
        have y1 := cell_of_row w4 g1 1 _ _ _ hb1
        have y2 := cell_of_row w4 g1 2 _ _ _ hb1
        have y3 := cell_of_row w4 g1 3 _ _ _ hb1
        have y4 := cell_of_row w4 g1 4 _ _ _ hb1
        have x0 := cell_of_row w4 g2 0 _ _ _ hb2
        have x1 := cell_of_row w4 g2 1 _ _ _ hb2
        have x2 := cell_of_row w4 g2 2 _ _ _ hb2
        have x3 := cell_of_row w4 g2 3 _ _ _ hb2
        have x4 := cell_of_row w4 g2 4 _ _ _ hb2
        simp only [List.getElem?_toArray, List.getElem?_cons_zero, List.getElem?_cons_succ] at y0 y1 y2 y3 y4 x0 x1 x2 x3 x4
        have hsm := same_any (a := a) (hR8.nl hab.2) (hR9.nl hab.2) hab.1
        unfold Ans.v at hsm
        have hwr5 : ∀ w5, Ext w4 w5 → wr.heap.size ≤ w5.heap.size := fun w5 h => by have := hE'.x.size; have := h.size; omega
        clear hK hN hW hE' hEW hF0 c0' c1' c2' z0 z1 z2 e1 e3 e8 e9 hS hWs
        go_wp2_with fail
        refine hsm.mono ?_
        rintro e w5 ⟨rfl, hE5⟩
        clear y0 y1 y2 y3 y4 x0 x1 x2 x3 x4 hsm
        have hS5 := hS8.ext hE5
        have hb1 := hE5.blk hb1
        have hb2 := hE5.blk hb2
        obtain ⟨z0, z1, z2⟩ := hcl w5 hS5.pq.ex
        have hhi5 := hS5.pq.hi
        have HH2 := Lib.hid (show x.ws.length = x.hs.length by rw [hS5.kp.hw.len, hS5.kp.hk.len])
        have hh3 : x.ws.length ≤ 40 := by rw [HH2.out]; exact hh1
        have hs5 := hE5.size
        have hs8 : wr.heap.size ≤ w5.heap.size := hwr5 w5 hE5
        by_cases k8 : o.k = 8
        · have b8 : (o.k == 8) = true := by simpa using k8
          have b7 : (o.k == 7) = false := by simp; omega
          have hn := hn8 k8
          have y0 := cell_of_row w5 g1 0 _ _ _ hb1
          simp only [List.getElem?_toArray, List.getElem?_cons_zero, List.getElem?_cons_succ] at y0
          have hMr := hS5.kp.mr
          unfold RowI at hMr
          clear k8
          go_wp2_with (at_builtin; refine wpList_append_apart rfl _ _ 22 rfl w2.heap.size 3 i0 _ 1 8 Try.underlying22 hi hz0 hz1 hz2 rfl (by decide) _ x.mks.length _ rfl (hMr.alloc _) ⟨w5.heap.size, 0, none⟩ 1 1 [.int .i64 a.n] rfl rfl (news_int _ _ _) (int_one _) (by decide) (by unfold maxLen; omega) (by omega) (by simp; omega) ?_; intro v' w6 ho3 hc3; obtain ⟨A3, c3, rfl⟩ := slice_of_own ho3; have hS6 := (hS5.ext (ext_alloc w5 (Obj.cells #[.int .i64 a.n] 3))).marked ho3 hc3; obtain ⟨z0', z1', z2'⟩ := hcl w6 hS6.pq.ex)
          have hz6 : wr.heap.size ≤ w6.heap.size := by have := (dr_step hc3).1.size; simp at this; omega
          have hS7 : St w w2.heap.size (2 * (k + 1)) w6.heap.size w6 m r m8 r8 s2 s2 { x with MA := A3, mc := c3, mks := x.mks ++ [a.n] } := hS6.next (by omega) hz6
          have hLB2 : LB { x with MA := A3, mc := c3, mks := x.mks ++ [a.n] } (k + 1) := ⟨by simp; omega, fun z hz => by
            rcases List.mem_append.1 hz with hz | hz
            · exact hLB.m2 z hz
            · rcases List.mem_singleton.1 hz
              exact hn, hLB.h1, hLB.l1, hLB.k1⟩
          clear ho3 hc3 hS5 hS6 hMr y0 z0 z1 z2 hb1 hb2
          go_wp2
          go_roundw
          case rel => exact ⟨k + 1, m8, r8, s2, { x with MA := A3, mc := c3, mks := x.mks ++ [a.n] }, by omega, by go_num, by show Value.slice A3 (x.mks.length + 1) c3 = .slice A3 (x.mks ++ [a.n]).length c3; rw [List.length_append]; rfl, rfl, rfl, hS7, hLB2⟩
          case measure => simp [intOf]; omega
        have b8 : (o.k == 8) = false := by simpa using k8
        have hS7 : St w w2.heap.size (2 * (k + 1)) w5.heap.size w5 m r m8 r8 s2 s2 x := hS5.next (by omega) hs8
        have hLB2 : LB x (k + 1) := hLB.mono (by omega)
        by_cases k7 : o.k = 7
        · have b7 : (o.k == 7) = true := by simpa using k7
          by_cases h40 : x.hs.length < 40
          · have b40 : (x.hs.length : Int) < 40 := by omega
            have y3 := cell_of_row w5 g1 3 _ _ _ hb1
            simp only [List.getElem?_toArray, List.getElem?_cons_zero, List.getElem?_cons_succ] at y3
            have hKr := hS5.kp.kr
            have hWr := hS5.kp.wr
            have hR6 := own_ext hR8 hE5
            have hR7 := own_ext hR9 hE5
            have hof := hoff k7
            obtain ⟨al, hal⟩ : ∃ n, a.l.length = n := ⟨_, rfl⟩
            have HAL := Lib.hid hal
            rw [hal] at y3
            have hgE := ext_alloc w5 (Obj.cells #[.slice A6 al c6] 22)
            have hb2a := hgE.blk hb2
            rw [HAL.out] at hb2a
            have hsa := hgE.size
            have hu3 : ∀ q, blkOf A6 = some q → ¬ LF m8 r8 q ∧ blkOf x.MA ≠ some q ∧ q < (w5.alloc (Obj.cells #[.slice A6 al c6] 22)).heap.size := fun q hq => ⟨hof q (.inl hq), fun e => by have := hmaU q e; have := (own_blt hR6 hq).1; omega, by have := (own_blt hR6 hq).2; omega⟩
            have hu4 : ∀ q, blkOf A7 = some q → ¬ LF m8 r8 q ∧ blkOf x.MA ≠ some q ∧ q < (w5.alloc (Obj.cells #[.slice A6 al c6] 22)).heap.size := fun q hq => ⟨hof q (.inr hq), fun e => by have := hmaU q e; have := (own_blt hR7 hq).1; omega, by have := (own_blt hR7 hq).2; omega⟩
            have hR6a : RowI w2.heap.size (w5.alloc (Obj.cells #[.slice A6 al c6] 22)) A6 c6 a.l := own_mono (own_ext hR6 hgE) hhi
            have hR7a : RowI w2.heap.size (w5.alloc (Obj.cells #[.slice A6 al c6] 22)) A7 c7 a.l := own_mono (own_ext hR7 hgE) hhi
            have hK := fun (w6 : World) (A3 : Option Addr) (c3 : Nat) ho hc => St.keptL (x := x) (hd := ⟨A6, al, c6⟩) (V' := w6) (A3 := A3) (c3 := c3) (hS5.ext hgE).pq (hS5.ext hgE).kp (show wr.heap.size ≤ (w5.alloc (Obj.cells #[.slice A6 al c6] 22)).heap.size by omega) HAL.out.symm hR6a hu3 (fun q hq => (own_blt hR6 hq).1) ho hc
            clear k8 k7 hS7 hal
            go_wp2_with (first | (at_builtin; refine wpList_append_apart rfl _ _ 52 rfl w2.heap.size 22 i1 _ 1 24 Try.underlying52 hi1 hy0 hy1 hy2 rfl (by decide) _ x.ws.length _ rfl (hk6.wr.alloc _) ⟨w6.heap.size, 0, none⟩ 1 1 [.slice A7 al c7] rfl rfl (news_sl _ _) (by simp [Value.oneCell']) (by decide) (by unfold maxLen; omega) (by omega) (by simp; omega) ?_; intro v'' w7 ho4 hc4; obtain ⟨A4, c4, rfl⟩ := slice_of_own ho4) | (at_builtin; refine wpList_append_apart rfl _ _ 52 rfl w2.heap.size 22 i1 _ 1 24 Try.underlying52 hi1 hy0 hy1 hy2 rfl (by decide) _ x.hs.length _ rfl (hKr.alloc _) ⟨w5.heap.size, 0, none⟩ 1 1 [.slice A6 al c6] rfl rfl (news_sl _ _) (by simp [Value.oneCell']) (by decide) (by unfold maxLen; omega) (by omega) (by simp; omega) ?_; intro v' w6 ho3 hc3; obtain ⟨A3, c3, rfl⟩ := slice_of_own ho3; obtain ⟨hp6, hk6, hx6⟩ := hK w6 A3 c3 ho3 hc3; have hb6 := box_dr (hKr.alloc _) hx6 hb2a (by decide); have x3 := cell_of_row w6 g2 3 _ _ _ hb6; simp only [List.getElem?_toArray, List.getElem?_cons_zero, List.getElem?_cons_succ] at x3; have hz6 : w2.heap.size ≤ w6.heap.size := (by have := hx6.size; omega)))
            have hgF := ext_alloc w6 (Obj.cells #[.slice A7 al c7] 22)
            have hne67 : ∀ q, blkOf A7 = some q → blkOf x.Ak ≠ some q := own_ne hR7 hKr (by decide)
            have hR7b : RowI w2.heap.size (w6.alloc (Obj.cells #[.slice A7 al c7] 22)) A7 c7 a.l := own_ext (own_dr (B' := w2.heap.size) hR7a hx6 hne67) hgF
            obtain ⟨hp7, hk7⟩ := St.wantL (x := x) (hd := ⟨A7, al, c7⟩) (V' := w7) (A3 := A4) (c3 := c4) (hp6.ext hgF) (hk6.ext hgF) HAL.out.symm hR7b hu4 ho4 hc4
            have hz7 : (w5.alloc (Obj.cells #[.slice A6 al c6] 22)).heap.size ≤ w7.heap.size := by
              have h1 := hx6.size
              have h2 := hgF.size
              have h3 := (dr_step hc4).1.size
              omega
            obtain ⟨gk, _, hgk, _⟩ := World.ownsRow.form ho3 (by omega)
            injection hgk with hgk
            have hS8 : St w w2.heap.size (2 * (k + 1)) w7.heap.size w7 m r m8 r8 s2 s2 ⟨x.MA, x.mc, x.mks, A3, c3, x.hs ++ [⟨A6, al, c6⟩], A4, c4, x.ws ++ [⟨A7, al, c7⟩], x.ls ++ [a.l]⟩ := St.next (⟨hp7, hk7⟩ : St w w2.heap.size (2 * k + 1 + 1) _ w7 m r m8 r8 s2 s2 ⟨x.MA, x.mc, x.mks, A3, c3, x.hs ++ [⟨A6, al, c6⟩], A4, c4, x.ws ++ [⟨A7, al, c7⟩], x.ls ++ [a.l]⟩) (by omega) hz7
            have hLB3 : LB ⟨x.MA, x.mc, x.mks, A3, c3, x.hs ++ [⟨A6, al, c6⟩], A4, c4, x.ws ++ [⟨A7, al, c7⟩], x.ls ++ [a.l]⟩ (k + 1) := ⟨by show x.mks.length ≤ k + 1; omega, hLB.m2, by show (x.hs ++ [_]).length ≤ 40; rw [List.length_append]; simp; omega, fun l hl => by
              rcases List.mem_append.1 hl with hl | hl
              · exact hLB.l1 l hl
              · rcases List.mem_singleton.1 hl
                exact hab, gk, hgk⟩
            clear ho3 hc3 ho4 hc4 hk6 hp6 hx6 hb6 x3 hS5 hKr hWr hK hR6 hR7 hR6a hR7a hR7b hu3 hu4 hp7 hk7 hgE hgF hb2a hb1 hb2 y3 hLB2 z0 z1 z2
            go_wp2
            go_roundw
            case rel => exact ⟨k + 1, m8, r8, s2, ⟨x.MA, x.mc, x.mks, A3, c3, x.hs ++ [⟨A6, al, c6⟩], A4, c4, x.ws ++ [⟨A7, al, c7⟩], x.ls ++ [a.l]⟩, by omega, by go_num, rfl, by show Value.slice A3 (x.hs.length + 1) c3 = .slice A3 (x.hs ++ [_]).length c3; rw [List.length_append]; rfl, by show Value.slice A4 (x.ws.length + 1) c4 = .slice A4 (x.ws ++ [_]).length c4; rw [List.length_append]; rfl, hS8, hLB3⟩
            case measure => simp [intOf]; omega
          · have b40 : ¬ (x.hs.length : Int) < 40 := by omega
            clear k8 k7
            go_wp2
            go_roundw
            case rel => exact ⟨k + 1, m8, r8, s2, x, by omega, by go_num, rfl, rfl, rfl, hS7, hLB2⟩
            case measure => simp [intOf]; omega
        · have b7 : (o.k == 7) = false := by simpa using k7
          clear k8 k7
          go_wp2
          go_roundw
          case rel => exact ⟨k + 1, m8, r8, s2, x, by omega, by go_num, rfl, rfl, rfl, hS7, hLB2⟩
          case measure => simp [intOf]; omega
      · obtain rfl : k = N := by omega
        have hKr := hS.kp.kr
        have hWr := hS.kp.wr
        have hhk := hS.kp.hk
        have hhw := hS.kp.hw
        have HH2 := Lib.hid (show x.ws.length = x.hs.length by rw [hhw.len, hhk.len])
        have hh3 : x.ws.length ≤ 40 := by rw [HH2.out]; exact hh1
        obtain ⟨v1, hv1⟩ : ∃ V, V = wr := ⟨_, rfl⟩
        subst hv1
        go_wp2
        go_loopw [14] (fun i V => ∃ j : Nat, j ≤ x.hs.length ∧ i = .int .i64 j ∧ Ext v1 V) (fun i _ => x.hs.length - (intOf i).toNat)
        case atStart => exact ⟨0, Nat.zero_le _, rfl, Below.refl _ _⟩
        case round =>
          obtain ⟨j, hj, rfl, hE⟩ := hrel
          by_cases hjN : j < x.hs.length
          · have hji : (j : Int) < (x.hs.length : Int) := by omega
            have hjw : j < x.ws.length := by rw [HH2.out]; exact hjN
            obtain ⟨h1, hh⟩ : ∃ h, x.hs[j]? = some h := ⟨_, List.getElem?_eq_getElem hjN⟩
            obtain ⟨h2, hh'⟩ : ∃ h, x.ws[j]? = some h := ⟨_, List.getElem?_eq_getElem hjw⟩
            obtain ⟨l1, e1, e2, e3, _⟩ := hhk.row j h1 hh
            obtain ⟨l2, e4, e5, e6, _⟩ := hhw.row j h2 hh'
            obtain rfl : l1 = l2 := by rw [e1] at e4; injection e4
            obtain ⟨hlb, hlz⟩ := hLB.l1 l1 (List.mem_of_getElem? e1)
            have q1 : ∀ W, Ext v1 W → W.cell? ⟨(blkOf x.Ak).getD 0, j, none⟩ = some h1.v := fun W hW => by
              obtain ⟨gg, capg, hvg, _⟩ := World.ownsRow.form hKr (by omega)
              injection hvg with hAg _ hcg
              have hk' := own_ext hKr hW
              rw [hAg] at hk' ⊢
              show W.cell? ⟨gg, j, none⟩ = _
              rw [World.ownsRow.cellAt hk' j (by omega)]
              simp [hh]
            have q2 : ∀ W, Ext v1 W → W.cell? ⟨(blkOf x.Aw).getD 0, j, none⟩ = some h2.v := fun W hW => by
              obtain ⟨gg, capg, hvg, _⟩ := World.ownsRow.form hWr (by omega)
              injection hvg with hAg _ hcg
              have hk' := own_ext hWr hW
              rw [hAg] at hk' ⊢
              show W.cell? ⟨gg, j, none⟩ = _
              rw [World.ownsRow.cellAt hk' j (by omega)]
              simp [hh']
            obtain ⟨g1, hg1⟩ : ∃ g, x.Ak = some ⟨g, 0, none⟩ := hLB.k1
            obtain ⟨g2, hg2⟩ : ∃ g, x.Aw = some ⟨g, 0, none⟩ := by
              obtain ⟨gg, capg, hvg, _⟩ := World.ownsRow.form hWr (by omega)
              injection hvg with hAg _ hcg
              exact ⟨gg, hAg⟩
            have hc1 : j < x.ck := by
              rcases hKr.2 with ⟨hx, _⟩ | ⟨_, cap, _, hx, _, _, hle, _⟩
              · rw [hg1] at hx; cases hx
              · injection hx with _ _ hx
                omega
            have hc2 : j < x.cw := by
              rcases hWr.2 with ⟨hx, _⟩ | ⟨_, cap, _, hx, _, _, hle, _⟩
              · rw [hg2] at hx; cases hx
              · injection hx with _ _ hx
                omega
            rw [hg1] at q1
            rw [hg2] at q2
            obtain ⟨A6, n6, c6⟩ := h1
            obtain ⟨A7, n7, c7⟩ := h2
            dsimp only at e2 e3 e5 e6
            subst e2
            subst e5
            have q1' : ∀ W, Ext v1 W → W.cell? ⟨g1, j, none⟩ = some (.slice A6 l1.length c6) := q1
            have q2' : ∀ W, Ext v1 W → W.cell? ⟨g2, j, none⟩ = some (.slice A7 l1.length c7) := q2
            have hq : ∀ W, Ext v1 W → Calls Try.prog 17 #[.slice A6 l1.length c6, .slice A7 l1.length c7] W fun e w' => e = .returned (.bool true) ∧ Ext W w' := fun W hW => by
              have h := eqi_any ((RowI.nl e3 hlz).ext hW) ((RowI.nl e6 hlz).ext hW) (by omega) (by omega)
              rw [decide_eq_true rfl] at h
              exact h
            rw [hg1, hg2]
            clear q1 q2 e1 e4 hh hh'
            go_wp2
            refine wp_region_rg Ext rel_ext (fun _ => True) [0, 1, 2, 3, 4, 5, 6, 7, 8, 9] (fun i => match i with | 8 => some fun _ v _ => v = .bool true | _ => none) (fun _ => none) (fun _ => false) (by kernel_rfl) (by kernel_rfl) (fun _ _ _ _ => trivial) trivial (fun W N hW _ hN => ?_)
            have hEW := hW
            have hEv := hE.trans hW
            have q3 : ∀ w', Ext W w' → w'.cell? ⟨g1, j, none⟩ = some (.slice A6 l1.length c6) := fun w' hh => q1' w' (hEv.trans hh)
            have q4 : ∀ w', Ext W w' → w'.cell? ⟨g2, j, none⟩ = some (.slice A7 l1.length c7) := fun w' hh => q2' w' (hEv.trans hh)
            repeat (first | (apply wpR_one; (case ho => (simp only [List.getElem?_toArray, List.getElem?_cons_succ, List.getElem?_cons_zero]; try exact rfl)); (case hw => rfl); (case hl => rfl); (case hsp => rfl); (case he => rfl); (case hv => (intro w' hw'; (try (have hw2 := Ext.trans hEW hw')); (try (have hw3 := Exc.trans hEW hw')); (try (have hw4 := Exk.trans hEW hw')); (try (have hw5 := Mrk.trans hEW hw')); go_simp; exact rfl)); (case hw0 => (first | exact Below.refl _ _ | exact Exc.of_ext (Below.refl _ _) | exact Exk.of_ext (Below.refl _ _) | exact Mrk.of_ext (Below.refl _ _))); simp only [Act.put, List.setIfInBounds_toArray, List.set_cons_succ, List.set_cons_zero]) | (apply wpR_early; (case ho => (simp only [List.getElem?_toArray, List.getElem?_cons_succ, List.getElem?_cons_zero]; try exact rfl)); (case hw => rfl); (case hl => rfl); (case hsp => rfl); (case he => rfl); (case hv => (intro w' hw'; (try have hw2 := Ext.trans hEW hw'); go_simp; exact rfl)); simp only [Act.put, List.setIfInBounds_toArray, List.set_cons_succ, List.set_cons_zero]) | (apply wpR_pass; (case ho => (simp only [List.getElem?_toArray, List.getElem?_cons_succ, List.getElem?_cons_zero]; try exact rfl)); (case hw => rfl); (case hl => rfl); simp only [Act.put, List.setIfInBounds_toArray, List.set_cons_succ, List.set_cons_zero]))
            refine wpR_new (by ((simp only [List.getElem?_toArray, List.getElem?_cons_succ, List.getElem?_cons_zero]; try exact rfl))) _ rfl rfl rfl (fun V v => Lasts.pure) (fun V V' h => rfl) (fun w' hw' hK => ?_) (fun z hz => ?_)
            · have hc3 := hq w' (hEv.trans hw')
              clear q3 q4
              unfold opAt; go_simp; refine upAt_enter ?_
              refine hc3.mono ?_
              rintro e w8 ⟨rfl, hE8⟩
              exact ⟨_, rfl, hE8, rfl⟩
            obtain ⟨_, _, _, rfl⟩ := hz
            simp only [Act.put, List.setIfInBounds_toArray, List.set_cons_succ, List.set_cons_zero]
            repeat (first | (apply wpR_one; (case ho => (simp only [List.getElem?_toArray, List.getElem?_cons_succ, List.getElem?_cons_zero]; try exact rfl)); (case hw => rfl); (case hl => rfl); (case hsp => rfl); (case he => rfl); (case hv => (intro w' hw'; (try (have hw2 := Ext.trans hEW hw')); (try (have hw3 := Exc.trans hEW hw')); (try (have hw4 := Exk.trans hEW hw')); (try (have hw5 := Mrk.trans hEW hw')); go_simp; exact rfl)); (case hw0 => (first | exact Below.refl _ _ | exact Exc.of_ext (Below.refl _ _) | exact Exk.of_ext (Below.refl _ _) | exact Mrk.of_ext (Below.refl _ _))); simp only [Act.put, List.setIfInBounds_toArray, List.set_cons_succ, List.set_cons_zero]) | (apply wpR_early; (case ho => (simp only [List.getElem?_toArray, List.getElem?_cons_succ, List.getElem?_cons_zero]; try exact rfl)); (case hw => rfl); (case hl => rfl); (case hsp => rfl); (case he => rfl); (case hv => (intro w' hw'; (try have hw2 := Ext.trans hEW hw'); go_simp; exact rfl)); simp only [Act.put, List.setIfInBounds_toArray, List.set_cons_succ, List.set_cons_zero]) | (apply wpR_pass; (case ho => (simp only [List.getElem?_toArray, List.getElem?_cons_succ, List.getElem?_cons_zero]; try exact rfl)); (case hw => rfl); (case hl => rfl); simp only [Act.put, List.setIfInBounds_toArray, List.set_cons_succ, List.set_cons_zero]))
            apply wpR_nil
            apply hN
            intro w8 hE8 hK _
            have hE9 := hEv.trans hE8
            clear hK hN hW hEW hE8 q3 q4 hEv
            go_wp2
            go_roundw
            case rel => exact ⟨j + 1, by omega, by go_num, hE9⟩
            case measure => simp [intOf]; omega
          · obtain rfl : j = x.hs.length := by omega
            have hS9 := hS.ext hE
            obtain ⟨g1, hg1⟩ : ∃ g, x.Ak = some ⟨g, 0, none⟩ := hLB.k1
            have hKr9 := hS9.kp.kr
            rcases hKr9.2 with ⟨hx, _⟩ | ⟨g, cap, cur, hv, hb, hg, hle, hmx, hcs, htk⟩
            · rw [hg1] at hx; cases hx
            injection hv with hv1 _ hv2
            subst hv2
            rw [hv1]
            have hrows := hS9.kp.hk
            have hap := apartInts_any (hs := x.hs) (B := w2.heap.size) hg (fun i h hi => by
              have h1 : (cur.toList.take (x.hs.length * 1))[i]? = some h.v := by rw [htk, List.getElem?_map, hi]; rfl
              rw [Nat.mul_one, List.getElem?_take] at h1
              split at h1
              · simpa using h1
              · cases h1) (by omega) hle (fun h hm => by
              obtain ⟨i, hi⟩ := List.mem_iff_getElem?.1 hm
              obtain ⟨l, e1, e2, _, _⟩ := hrows.row i h hi
              have := (hLB.l1 l (List.mem_of_getElem? e1)).1
              omega) hS9.pq.hi hS9.kp.ap (fun i h hi => by
              obtain ⟨l, e1, e2, e3, _⟩ := hrows.row i h hi
              unfold RowI at e3
              rw [← e2] at e3
              exact ⟨_, e3⟩)
            clear hS hKr hWr hhk hhw hcs htk hrows
            go_wp2_with fail
            refine hap.mono ?_
            rintro e w6 ⟨rfl, hx6⟩
            have hrows := hS9.kp.hk
            have hlo := hS9.pq.lo
            have hhi := hS9.pq.hi
            have hDH : ∀ q, DH x.hs wr.heap.size q → ¬ LF m' r' q ∧ w2.heap.size ≤ q := fun q hq => by
              rcases hq with ⟨h, hm, hq⟩ | hq
              · obtain ⟨i, hi⟩ := List.mem_iff_getElem?.1 hm
                obtain ⟨l, e1, e2, e3, e4⟩ := hrows.row i h hi
                have hq' : blkOf h.A = some q := by rw [ownBlock_eq] at hq; exact hq
                exact ⟨(e4 q hq').1, (own_blt e3 hq').1⟩
              · exact ⟨fun e => by have := (hS9.pq.lf e).2; omega, by omega⟩
            have hp6 := hS9.pq.p.exc hx6 (fun q o hq e => (hDH q e).1 (.inl hq))
            have hq6 := hS9.pq.q.exc hx6 (fun q o hq e => (hDH q e).1 (.inr hq))
            have hE6 : Ext w w6 := hx6.to_ext hS9.pq.ex (fun q o e => Nat.le_trans hlo (hDH q e).2)
            have hlk := likely_any hp6 hq6 (by omega)
            rw [hS9.pq.mp, hS9.pq.rp] at hlk
            clear hap
            go_wp2_with fail
            refine hlk.mono ?_
            rintro e w7 ⟨rfl, hE7⟩
            go_wp2
            go_ret
            exact ⟨rfl, hE6.trans hE7⟩
end Go.Proofs.Ytaalhicdeibodaa
