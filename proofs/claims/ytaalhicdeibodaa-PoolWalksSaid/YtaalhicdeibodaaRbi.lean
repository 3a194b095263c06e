/- Package runs, at int: gaps. No condition but the bounds of the kind. -/
import Derived.Test.YtaalhicdeibodaaRai
namespace Go.Proofs.Ytaalhicdeibodaa
open Go.RowKit Go.Proofs Go.Shelf
set_option linter.unusedVariables false
attribute [local go_sem] Oper.semAt_some
theorem cells_abide {A B : World} {row : Option Nat} {C : Nat} (hg : A.grownBy B row) (hr : ∀ q, row = some q → False ∨ (C ≤ q ∧ ∃ o : Obj, A.heap[q]? = some o ∧ o.isCells = false)) {g : Nat} {cs : Array Value} {t : TypeId} {fr : Nat × Nat} (h : A.heap[g]? = some (.cells cs t fr)) : B.heap[g]? = some (.cells cs t fr) :=
  (hg.block g (Array.getElem?_eq_some_iff.1 h).1 (fun e => by
    rcases hr g e.symm with h1 | ⟨_, o, h1, h2⟩
    · exact h1
    · rw [h] at h1
      injection h1 with h1
      subst h1
      simp [Obj.isCells] at h2)).trans h
theorem gaps_anyi {p : Option Addr} {r : Rn} {w : World} : Calls Try.prog 68 #[.pointer p, .agg #[.int .i64 r.lo, .int .i64 r.hi]] w fun e w' =>
    e = .returned (.func (.func 72) #[] #[.pointer (some ⟨w.heap.size, 0, none⟩), .pointer (some ⟨w.heap.size + 1, 0, none⟩)]) ∧
    w' = (w.alloc (.cells #[.pointer p] 70)).alloc (.cells #[.int .i64 r.lo, .int .i64 r.hi] 94) := by
  have hmf : ∀ (fn : Fn) (first cap : Array Value) (w : World), (Instr.makeFunc fn first cap).run Try.prog w = .ok (.func fn first cap) w := fun _ _ _ _ => rfl
  go_enter Try.func68, Try.ntmps68
  go_wp2
  go_ret
  exact ⟨rfl, rfl⟩
set_option maxRecDepth 100000 in
set_option maxHeartbeats 1000000 in
theorem gaps_seqi {B p sb rb c : Nat} {A : Option Addr} {L : List Rn} {r : Rn} {w : World} {Dk : Nat → Prop} (hs : w.heap[sb]? = some (.cells #[.pointer (some ⟨p, 0, none⟩)] 70 (0, 0))) (hr : w.heap[rb]? = some (.cells #[.int .i64 r.lo, .int .i64 r.hi] 94 (0, 0)))
    (hS : SetAti B p A c w L) (hl : L.length ≤ 1000000) (hrB : rb < w.heap.size → B ≤ w.heap.size) (hbr : Bdi r) (hlt : ∀ q, Dk q → q < w.heap.size) (hsb : ¬ Dk sb) (hrb : ¬ Dk rb) (hp : ¬ Dk p) (hd : ∀ q, (Value.slice A L.length c).ownBlock = some q → ¬ Dk q)
    (hne1 : rb ≠ sb) (hne2 : rb ≠ p) (hne3 : (Value.slice A L.length c).ownBlock ≠ some rb) :
    SeqX Try.prog 72 #[.pointer (some ⟨sb, 0, none⟩), .pointer (some ⟨rb, 0, none⟩)] encRi (fun q => q = rb) Dk (fun xs => xs = gapsL (withinL L r) r) (fun pre => pre <+: gapsL (withinL L r) r) w := by
  intro l J Jx W hW hJ hJx hY h0
  replace hs := hW.cells hs (fun h => h)
  replace hr := hW.cells hr (fun h => h)
  replace hS := hS.round hW (fun h => h) (fun q _ h => h)
  have hWs := hW.size
  clear hW
  have hE0 := ext_alloc W (Obj.cells #[Value.func (Fn.yield l) #[] #[]] 104)
  have hyb := heap_alloc_new W (Obj.cells #[Value.func (Fn.yield l) #[] #[]] 104)
  have q0 := cell_of_row _ sb 0 _ _ _ (hE0.blk hs)
  have q1 := cell_of_row _ rb 0 _ _ _ (hE0.blk hr)
  have q2 := cell_of_row _ rb 1 _ _ _ (hE0.blk hr)
  simp only [List.getElem?_toArray, List.getElem?_cons_zero, List.getElem?_cons_succ] at q0 q1 q2
  refine callsIn_of_wp_marks Try.func72 rfl trivial ?_
  simp only [Try.ntmps72, List.size_toArray, List.length_cons, List.length_nil, Nat.reduceAdd, Nat.reduceSub, Array.replicate_succ, Array.replicate_zero, List.push_toArray, List.append_toArray, List.nil_append, List.cons_append]
  gi_wp2
  refine ⟨trivial, rfl, (callsIn_wide.2 within_anyi).mono ?_⟩
  rintro e w' ⟨rfl, rfl⟩
  gi_wp2
  refine wpIn_cut (fun V => Ext W V ∧ V.heap.size = W.heap.size + 3 ∧ V.heap[W.heap.size]? = some (.cells #[.func (.yield l) #[] #[]] 104 (0, 0)) ∧ V.heap[W.heap.size + 1]? = some (.cells #[.pointer (some ⟨p, 0, none⟩)] 70 (0, 0)) ∧ V.heap[W.heap.size + 1 + 1]? = some (.cells #[.int .i64 r.lo, .int .i64 r.hi] 94 (0, 0)))
    ⟨(ext_alloc _ _).trans ((ext_alloc _ _).trans (ext_alloc _ _)), by simp, ((ext_alloc _ _).trans (ext_alloc _ _)).blk hyb, by
      have := (ext_alloc ((W.alloc (Obj.cells #[Value.func (Fn.yield l) #[] #[]] 104)).alloc (Obj.cells #[.pointer (some ⟨p, 0, none⟩)] 70)) (Obj.cells #[.int .i64 r.lo, .int .i64 r.hi] 94)).blk (heap_alloc_new (W.alloc (Obj.cells #[Value.func (Fn.yield l) #[] #[]] 104)) (Obj.cells #[.pointer (some ⟨p, 0, none⟩)] 70))
      rwa [World.size_alloc] at this, by
      have := heap_alloc_new ((W.alloc (Obj.cells #[Value.func (Fn.yield l) #[] #[]] 104)).alloc (Obj.cells #[.pointer (some ⟨p, 0, none⟩)] 70)) (Obj.cells #[.int .i64 r.lo, .int .i64 r.hi] 94)
      rwa [World.size_alloc, World.size_alloc] at this⟩ ?_
  rintro w1 ⟨hE1, hz1, b1, b2, b3⟩
  have hrlt : rb < W.heap.size := (Array.getElem?_eq_some_iff.1 hr).1
  have hr1 := hE1.blk hr
  have hDlt : ∀ q, Dk q → q < W.heap.size := fun q h => Nat.lt_of_lt_of_le (hlt q h) hWs
  have hplt := (Array.getElem?_eq_some_iff.1 hS.hd).1
  clear q0 q1 q2 hE0 hyb
  have n1 : ¬ (Dk (W.heap.size + 1) ∨ W.heap.size + 1 = rb) := fun h => h.elim (fun h => by have := hDlt _ h; omega) (fun h => by omega)
  have n2 : ¬ (Dk (W.heap.size + 1 + 1) ∨ W.heap.size + 1 + 1 = rb) := fun h => h.elim (fun h => by have := hDlt _ h; omega) (fun h => by omega)
  have n3 : ¬ (Dk p ∨ p = rb) := fun h => h.elim hp (fun h => hne2 h.symm)
  have n4 : ∀ q, (Value.slice A L.length c).ownBlock = some q → ¬ (Dk q ∨ q = rb) := fun q hq h => h.elim (hd q hq) (fun h => hne3 (by rw [hq, h]))
  have n5 : ∀ q, (Dk q ∨ q = rb) → q < w1.heap.size := fun q h => h.elim (fun h => by have := hDlt _ h; omega) (fun h => by omega)
  refine wpIn_rangeX (α := Rn) rfl (enters_of Try.func75 (by kernel_rfl) rfl)
    (within_seqi (p := p) (Dk := fun q => Dk q ∨ q = rb) b2 b3 (hS.ext hE1) hl n1 n2 n3 n4)
    (fun q h => h.elim) n5 (fun _ => rfl)
    (fun pre V => J (gOut pre r) V ∧ V.heap[rb]? = some (.cells #[.int .i64 (gCur pre r).lo, .int .i64 r.hi] 94 (0, 0)) ∧ V.heap[W.heap.size]? = some (.cells #[.func (.yield l) #[] #[]] 104 (0, 0)) ∧ -9223372036854775808 ≤ (gCur pre r).lo ∧ ∀ y ∈ pre, y.hi ≠ r.hi)
    (fun c pre V => c = .ret ∧ ((∃ pre' x, pre = pre' ++ [x] ∧ x.hi = r.hi ∧ (∀ y ∈ pre', y.hi ≠ r.hi) ∧ J (gOut pre r) V) ∨ ∃ q, q <+: gapsL (withinL L r) r ∧ Jx q V))
    ?hI ?hIx ?h0
    (fun x a' V => ∃ xb, w1.heap.size ≤ xb ∧ V.heap[xb]? = some (.cells #[.int .i64 x.lo, .int .i64 x.hi] 94 (0, 0)) ∧ a' = { tmps := #[Value.func (Fn.yield l) #[] #[], .pointer (some ⟨sb, 0, none⟩), .pointer (some ⟨rb, 0, none⟩), .pointer (some ⟨W.heap.size, 0, none⟩), .pointer (some ⟨xb, 0, none⟩), .pointer (some ⟨p, 0, none⟩), .agg #[.int .i64 r.lo, .int .i64 r.hi],
      .func (.func 75) #[] #[.pointer (some ⟨W.heap.size + 1, 0, none⟩), .pointer (some ⟨W.heap.size + 1 + 1, 0, none⟩)], .agg #[.int .i64 x.lo, .int .i64 x.hi], undef, undef, undef, undef, undef, undef, undef, undef, undef, undef, undef, undef, undef, undef, undef, undef, undef, undef, undef, undef, undef, undef, undef, undef, undef, undef, undef, undef], defers := [] })
    ?hAx ?assign ?body ?done ?stop
  case hI =>
    rintro s A' B' row ⟨x1, x2, x3, x4⟩ hg hrw
    have hrw2 : ∀ q, row = some q → q = rb ∨ (W.heap.size ≤ q ∧ ∃ o : Obj, A'.heap[q]? = some o ∧ o.isCells = false) := fun q e => by
      rcases hrw q e with h | ⟨h, h'⟩
      · exact h.elim
      · exact .inr ⟨by omega, h'⟩
    exact ⟨hJ _ _ _ row x1 hg hrw2, cells_abide hg hrw x2, cells_abide hg hrw x3, x4⟩
  case hIx =>
    rintro cc s A' B' row ⟨x1, x2⟩ hg hrw
    refine ⟨x1, ?_⟩
    have hrw2 : ∀ q, row = some q → q = rb ∨ (W.heap.size ≤ q ∧ ∃ o : Obj, A'.heap[q]? = some o ∧ o.isCells = false) := fun q e => by
      rcases hrw q e with h | ⟨h, h'⟩
      · exact h.elim
      · exact .inr ⟨by omega, h'⟩
    rcases x2 with ⟨pre', x, y1, y2, y3, y4⟩ | ⟨q, y1, y2⟩
    · exact .inl ⟨pre', x, y1, y2, y3, hJ _ _ _ row y4 hg hrw2⟩
    · exact .inr ⟨q, y1, hJx _ _ _ row y2 hg hrw2⟩
  case h0 => exact ⟨hJ _ _ _ none h0 (grown_ext hE1) (fun q e => by cases e), hr1, b1, hbr.1.1, fun y hy => by cases hy⟩
  case hAx =>
    rintro x a' A' B' row ⟨xb, y1, y2, y3⟩ hg hrw
    exact ⟨xb, y1, cells_abide (C := 0) hg (fun q e => .inr ⟨Nat.zero_le _, hrw q e⟩) y2, y3⟩
  case assign =>
    intro l2 x V K hsz hK
    gi_wp2
    exact hK _ _ (ext_alloc _ _) ⟨V.heap.size, hsz, heap_alloc_new _ _, rfl⟩
  case body =>
    rintro l2 pre x a' V ⟨hJs, hrv, hyv, hlo, hno⟩ ⟨xb, hxb, hxc, rfl⟩ hpre hsz
    have hxm : x ∈ withinL L r := by obtain ⟨t, ht⟩ := hpre; rw [← ht]; simp
    obtain ⟨m1, m2, m3, _⟩ := within_mem hxm
    have hgp := gOut_prefix hno hpre
    rw [gOut_snoc] at hgp
    have hgs := gOut_snoc pre x r
    have hcs := gCur_snoc pre x r
    generalize gOut pre r = go at *
    generalize (gCur pre r).lo = clo at *
    have HS := Lib.hid hgs
    have HC := Lib.hid hcs
    have HN := Lib.hid hno
    have HP := Lib.hid hpre
    clear hgs hcs hno hpre hxm
    obtain ⟨⟨e1, e2⟩, e3, e4⟩ := hbr
    have q0 := cell_of_row V rb 0 _ _ _ hrv
    have q1 := cell_of_row V rb 1 _ _ _ hrv
    have q2 := cell_of_row V xb 0 _ _ _ hxc
    have q3 := cell_of_row V xb 1 _ _ _ hxc
    have q4 := cell_of_row V W.heap.size 0 _ _ _ hyv
    simp only [List.getElem?_toArray, List.getElem?_cons_zero, List.getElem?_cons_succ] at q0 q1 q2 q3 q4
    have hxb2 : ¬ Dk xb := fun h => by have := hDlt _ h; omega
    have hyb2 : ¬ Dk W.heap.size := fun h => by have := hDlt _ h; omega
    by_cases h1 : clo < x.lo
    · rw [if_pos h1] at hgp
      have HS2 : Hid (gOut (pre ++ [x]) r = go ++ [⟨clo, x.lo - 1⟩]) := Lib.hid (by rw [HS.out, if_pos h1])
      clear HS
      obtain ⟨fn, tmps, assign, body, hy, hR⟩ := hY go ⟨clo, x.lo - 1⟩ V hJs hgp
      gi_wp2
      refine ⟨rfl, RoundIn.mono (F := Fence.wide.inRound l2) hR ?_⟩
      rintro e W3 (⟨rfl, hJ3, hk3⟩ | ⟨rfl, hJx3, hk3⟩)
      · have k0 := hk3.cells hrv hrb
        have k1 := hk3.cells hxc hxb2
        have k2 := hk3.cells hyv hyb2
        have hX : RoundX (fun q => Dk q ∨ q = rb) w1.heap.size V W3 := hk3.mono (fun q h => .inl h) (by omega)
        rw [← HS2.out] at hJ3
        clear q0 q1 q2 q3 q4 hrv hxc hyv hk3 hJs hR hy
        have q0 := cell_of_row W3 rb 0 _ _ _ k0
        have q1 := cell_of_row W3 rb 1 _ _ _ k0
        have q3 := cell_of_row W3 xb 1 _ _ _ k1
        have f0 := frozen_of_row W3 rb 0 _ _ k0
        simp only [List.getElem?_toArray, List.getElem?_cons_zero, List.getElem?_cons_succ] at q0 q1 q3
        by_cases h2 : x.hi = r.hi
        · have H2 := Lib.hid h2
          gi_wp2
          exact ⟨hX, rfl, .inl ⟨pre, x, rfl, H2.out, HN.out, hJ3⟩⟩
        · have H2 := Lib.hid h2
          have h3 : x.hi < r.hi := by omega
          have l0 := heap_setCell_same W3 rb 0 _ _ (.int .i64 (x.hi + 1)) k0
          have l2' := (Below.heap_setCell W3 ⟨rb, 0, none⟩ (.int .i64 (x.hi + 1)) W.heap.size (show W.heap.size ≠ rb by omega)).trans k2
          have hgr : W3.grownBy (W3.setCell ⟨rb, 0, none⟩ (.int .i64 (x.hi + 1))) (some rb) := ⟨rfl, rfl, rfl, by simp [World.setCell], fun k hk hn => Below.heap_setCell W3 _ _ k (by rintro rfl; exact hn rfl)⟩
          have hJ4 := hJ _ _ _ (some rb) hJ3 hgr (fun q e => by injection e with e; exact .inl e.symm)
          have hX4 := hX.trans (Exc.of_grown (D := fun q o => (Dk q ∨ q = rb) ∨ (q < w1.heap.size ∧ o.isCells = false)) hgr (fun q o h _ => by injection h with h; exact .inl (.inr h.symm)))
          gi_wp2
          refine ⟨hX4, hJ4, ?_, l2', ?_, ?_⟩
          · rw [HC.out]; exact l0
          · rw [HC.out]; simp only; omega
          · intro y hy
            rcases List.mem_append.1 hy with hy | hy
            · exact HN.out y hy
            · rcases List.mem_cons.1 hy with rfl | hy
              · exact H2.out
              · cases hy
      · have hX : RoundX (fun q => Dk q ∨ q = rb) w1.heap.size V W3 := hk3.mono (fun q h => .inl h) (by omega)
        gi_wp2
        exact ⟨hX, rfl, .inr ⟨_, hgp, hJx3⟩⟩
    · have HS2 : Hid (gOut (pre ++ [x]) r = go) := Lib.hid (by rw [HS.out, if_neg h1, List.append_nil])
      rw [← HS2.out] at hJs
      have h1' : ¬ clo < x.lo := h1
      gi_wp2
      refine ⟨fun _ h => (by cases h), ?_⟩
      have hX : RoundX (fun q => Dk q ∨ q = rb) w1.heap.size V V := RoundX.refl _ _ _
      clear q0 q1 q2 q3 q4 HS
      have q0 := cell_of_row V rb 0 _ _ _ hrv
      have q1 := cell_of_row V rb 1 _ _ _ hrv
      have q3 := cell_of_row V xb 1 _ _ _ hxc
      have f0 := frozen_of_row V rb 0 _ _ hrv
      simp only [List.getElem?_toArray, List.getElem?_cons_zero, List.getElem?_cons_succ] at q0 q1 q3
      by_cases h2 : x.hi = r.hi
      · have H2 := Lib.hid h2
        gi_wp2
        exact ⟨hX, rfl, .inl ⟨pre, x, rfl, H2.out, HN.out, hJs⟩⟩
      · have H2 := Lib.hid h2
        have h3 : x.hi < r.hi := by omega
        have l0 := heap_setCell_same V rb 0 _ _ (.int .i64 (x.hi + 1)) hrv
        have l2' := (Below.heap_setCell V ⟨rb, 0, none⟩ (.int .i64 (x.hi + 1)) W.heap.size (show W.heap.size ≠ rb by omega)).trans hyv
        have hgr : V.grownBy (V.setCell ⟨rb, 0, none⟩ (.int .i64 (x.hi + 1))) (some rb) := ⟨rfl, rfl, rfl, by simp [World.setCell], fun k hk hn => Below.heap_setCell V _ _ k (by rintro rfl; exact hn rfl)⟩
        have hJ4 := hJ _ _ _ (some rb) hJs hgr (fun q e => by injection e with e; exact .inl e.symm)
        have hX4 := hX.trans (Exc.of_grown (D := fun q o => (Dk q ∨ q = rb) ∨ (q < w1.heap.size ∧ o.isCells = false)) hgr (fun q o h _ => by injection h with h; exact .inl (.inr h.symm)))
        gi_wp2
        refine ⟨hX4, hJ4, ?_, l2', ?_, ?_⟩
        · rw [HC.out]; exact l0
        · rw [HC.out]; simp only; omega
        · intro y hy
          rcases List.mem_append.1 hy with hy | hy
          · exact HN.out y hy
          · rcases List.mem_cons.1 hy with rfl | hy
            · exact H2.out
            · cases hy
  case done =>
    rintro E xs V rfl ⟨hJs, hrv, hyv, hlo, hno⟩ hEs hKE
    have hall := gapsL_all hno
    have hcu : gCur (withinL L r) r = ⟨(gCur (withinL L r) r).lo, r.hi⟩ := by rw [← gCur_hi (withinL L r) r]
    rw [hcu] at hall
    generalize (gCur (withinL L r) r).lo = clo at *
    obtain ⟨fn, tmps, assign, body, hy, hR⟩ := hY (gOut (withinL L r) r) ⟨clo, r.hi⟩ V hJs (by rw [hall]; exact List.prefix_rfl)
    rw [← hall] at hR
    have q0 := cell_of_row V rb 0 _ _ _ hrv
    have q1 := cell_of_row V rb 1 _ _ _ hrv
    have q4 := cell_of_row V W.heap.size 0 _ _ _ hyv
    have hEk : ¬ (Dk E ∨ (E < W.heap.size ∧ Obj.isCells (.deferred (some [])) = false)) := fun h => h.elim (fun h => by have := hDlt _ h; omega) (fun h => by have := h.1; omega)
    clear hall hcu
    gi_wp2
    refine ⟨rfl, hR.mono ?_⟩
    rintro e W3 (⟨rfl, hJ3, hk3⟩ | ⟨rfl, hJx3, hk3⟩)
    · have hK3 := hk3.blk hKE hEk
      have hJ4 := hJ _ _ _ (some E) hJ3 (grownBy_putObj' W3 E (.deferred none)) (fun q e => by injection e with e; subst e; exact .inr ⟨by omega, _, hK3, rfl⟩)
      gi_wp2
      refine ⟨by simp, .inl ⟨_, _, rfl, run_takeDeferred hK3, ?_⟩⟩
      exact ⟨_, results_none rfl _ _ _, ⟨_, rfl⟩, .inl ⟨_, rfl, hJ4⟩⟩
    · have hK3 := hk3.blk hKE hEk
      have hJ4 := hJx _ _ _ (some E) hJx3 (grownBy_putObj' W3 E (.deferred none)) (fun q e => by injection e with e; subst e; exact .inr ⟨by omega, _, hK3, rfl⟩)
      gi_wp2
      refine ⟨by simp, .inl ⟨_, _, rfl, run_takeDeferred hK3, ?_⟩⟩
      exact ⟨_, results_none rfl _ _ _, ⟨_, rfl⟩, .inr ⟨_, List.prefix_rfl, hJ4⟩⟩
  case stop =>
    rintro E cc pre V hpre ⟨rfl, h⟩ hEs hKE
    have hend : (∃ xs, xs = gapsL (withinL L r) r ∧ J xs (V.putObj E (.deferred none))) ∨ (∃ q, q <+: gapsL (withinL L r) r ∧ Jx q (V.putObj E (.deferred none))) := by
      rcases h with ⟨pre', x, rfl, y2, y3, y4⟩ | ⟨q, y1, y2⟩
      · obtain ⟨rest, hrest⟩ := hpre
        refine .inl ⟨_, rfl, ?_⟩
        rw [← hrest, List.append_assoc, List.singleton_append, gapsL_stop y3 y2]
        exact hJ _ _ _ (some E) y4 (grownBy_putObj' V E _) (fun q e => by injection e with e; subst e; exact .inr ⟨by omega, _, hKE, rfl⟩)
      · exact .inr ⟨q, y1, hJx _ _ _ (some E) y2 (grownBy_putObj' V E _) (fun q e => by injection e with e; subst e; exact .inr ⟨by omega, _, hKE, rfl⟩)⟩
    clear h hpre
    gi_wp2
    refine ⟨by simp, .inl ⟨_, _, rfl, run_takeDeferred hKE, ?_⟩⟩
    exact ⟨_, results_none rfl _ _ _, ⟨_, rfl⟩, hend⟩
end Go.Proofs.Ytaalhicdeibodaa
