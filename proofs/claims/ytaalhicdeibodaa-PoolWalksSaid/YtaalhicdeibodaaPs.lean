/- Layer 10: walked. No condition but the sizes. -/
import Derived.Test.YtaalhicdeibodaaPr
import Derived.Test.YtaalhicdeibodaaItery
namespace Go.Proofs.Ytaalhicdeibodaa
open Go.RowKit Go.Proofs Go.Shelf
set_option linter.unusedVariables false
attribute [local go_sem] Oper.semAt_some
theorem run_equalIn_func_nilp {P : Program} (w : World) (d : Nat) (t : TypeId) (x : Array TypeId) (y : Array TypeId) (z : Bool) (fn : Fn) (first cap : Array Value) (h : P.underlying t = some (.func x y z)) : (Op.equalIn (d + 1) t (.func fn first cap) .nilFunc).run P w = .ok false w := by
  simp [Op.equalIn, run_underlying h]
theorem walkI_nil (b : Nat) (w : World) : (binOp .eql 45 (walkI b) .nilFunc).run Try.prog w = .ok (.bool false) w := by
  have h := run_equalIn_func_nilp w 9999 45 _ _ _ (.func 40) #[] #[.pointer (some ⟨b, 0, none⟩)] Try.underlying45
  have h2 : (Op.equal 45 (walkI b) .nilFunc).run Try.prog w = .ok false w := h
  simp only [binOp]
  simp [h2]
theorem blk_keep {w : World} {k g i : Nat} {o : Obj} {v : Value} (h : w.heap[k]? = some o) (hne : k ≠ g) : (w.setCell ⟨g, i, none⟩ v).heap[k]? = some o := (setCell_excp w g i v).blk h hne
/-- What a walk has gathered, in the cell ob. -/
def OutI (ob lo : Nat) (w1 : World) (pre : List Int) (V : World) : Prop :=
  ∃ A c, Exc (fun q _ => q = ob) w1 V ∧ V.heap[ob]? = some (.cells #[.slice A pre.length c] 22 (0, 0)) ∧ RowI lo V A c pre ∧ (c = 0 ∨ ∀ q, blkOf A = some q → w1.heap.size + 2 ≤ q)
theorem OutI.abide {ob lo : Nat} {w1 A B : World} {row : Option Nat} {pre : List Int} (h : OutI ob lo w1 pre A) (hg : A.grownBy B row) (hr : ∀ r, row = some r → False ∨ (w1.heap.size ≤ r ∧ ∃ o : Obj, A.heap[r]? = some o ∧ o.isCells = false)) : OutI ob lo w1 pre B := by
  obtain ⟨a, c, h1, h2, h3, h4⟩ := h
  refine ⟨a, c, exc_grown_new h1 hg (fun q e => ((hr q e).elim (fun h => h.elim) (fun h => h.1))), cells_abide hg hr h2, ⟨h3.1, ?_⟩, h4⟩
  rcases h3.2 with h0 | ⟨g, cap, cur, hv, hb, hgg, r⟩
  · exact .inl h0
  · exact .inr ⟨g, cap, cur, hv, hb, cells_abide hg hr hgg, r⟩
theorem OutI.step {ob lo : Nat} {w1 V w3 : World} {pre : List Int} {A : Option Addr} {c : Nat} {A3 : Option Addr} {c3 : Nat} {x : Int} (hlo : lo ≤ w1.heap.size) (hob : ob < w1.heap.size) (h1 : Exc (fun q _ => q = ob) w1 V) (h2 : V.heap[ob]? = some (.cells #[.slice A pre.length c] 22 (0, 0))) (h3 : RowI lo V A c pre) (h4 : c = 0 ∨ ∀ q, blkOf A = some q → w1.heap.size + 2 ≤ q) (hV : w1.heap.size + 2 ≤ V.heap.size)
    (ho3 : w3.ownsRow lo 3 1 (.slice A3 (pre.length + 1) c3) (pre.length + 1) (ic pre ++ [.int .i64 x]))
    (hc : (∃ A' c', Value.slice A pre.length c = .slice A' pre.length c' ∧ Value.slice A3 (pre.length + 1) c3 = .slice A' (pre.length + 1) c' ∧ (V.alloc (.cells #[.int .i64 x] 3)).grownBy w3 (Value.slice A pre.length c).ownBlock) ∨ ((V.alloc (.cells #[.int .i64 x] 3)).grownBy w3 none ∧ ∀ g, (Value.slice A3 (pre.length + 1) c3).ownBlock = some g → (V.alloc (.cells #[.int .i64 x] 3)).heap.size ≤ g))
    (hne : lo ≠ ob ∨ True) :
    OutI ob lo w1 (pre ++ [x]) (w3.setCell ⟨ob, 0, none⟩ (.slice A3 (pre.length + 1) c3)) ∧ Exc (fun q _ => q = ob ∨ w1.heap.size + 2 ≤ q) V (w3.setCell ⟨ob, 0, none⟩ (.slice A3 (pre.length + 1) c3)) := by
  have hlt : ob < V.heap.size := (Array.getElem?_eq_some_iff.1 h2).1
  have hb3 := app_blk (own_ext h3 (ext_alloc V (.cells #[.int .i64 x] 3))) hc ((ext_alloc V _).blk h2) (by decide)
  have hrow : Exc (fun q _ => w1.heap.size + 2 ≤ q) V w3 ∧ (c3 = 0 ∨ ∀ q, blkOf A3 = some q → w1.heap.size + 2 ≤ q) := by
    rcases hc with ⟨A', c', e1, e2, hg⟩ | ⟨hg, hn⟩
    · injection e1 with e3 _ e4
      injection e2 with e5 _ e6
      subst e3 e4 e5 e6
      have hc0 : ¬ c3 = 0 := by
        rcases ho3.2 with ⟨_, h0⟩ | ⟨g, cap, cur, hv, _, _, hle, _⟩
        · omega
        · injection hv with _ _ e; omega
      have h5 := h4.resolve_left hc0
      refine ⟨(Exc.of_ext (ext_alloc V _)).trans (Exc.of_grown hg (fun q o e _ => by rw [ownBlock_eq] at e; exact h5 q e)), .inr h5⟩
    · refine ⟨(Exc.of_ext (ext_alloc V _)).trans (Exc.of_ext (ext_grown0 hg)), .inr fun q hq => ?_⟩
      have := hn q (by rw [ownBlock_eq]; exact hq)
      simp at this
      omega
  have hx := setCell_excp w3 ob 0 (.slice A3 (pre.length + 1) c3)
  have hV1 : Exc (fun q _ => q = ob) w1 w3 := ⟨hrow.1.os.trans h1.os, hrow.1.tape.trans h1.tape, hrow.1.output.trans h1.output, Nat.le_trans h1.size hrow.1.size, fun q o ho hn => hrow.1.block q o (h1.block q o ho hn) (fun e => by have := (Array.getElem?_eq_some_iff.1 ho).1; omega)⟩
  refine ⟨⟨A3, c3, hV1.trans hx, ?_, ?_, hrow.2⟩, ?_⟩
  · rw [heap_setCell_same w3 ob 0 _ _ _ hb3, List.length_append]
    rfl
  · unfold RowI
    rw [List.length_append, show ic (pre ++ [x]) = ic pre ++ [.int .i64 x] by simp [ic]]
    refine own_out ho3 hx (fun b o hb e => ?_)
    subst e
    exact own_not ho3 hb3 (by decide) hb
  · exact ⟨hx.os.trans hrow.1.os, hx.tape.trans hrow.1.tape, hx.output.trans hrow.1.output, Nat.le_trans hrow.1.size hx.size, fun q o ho hn => hx.block q o (hrow.1.block q o ho (fun e => hn (.inr e))) (fun e => hn (.inl e))⟩
set_option maxRecDepth 100000 in
set_option maxHeartbeats 2000000 in
theorem walked_any {B N : Nat} {w : World} {m : Pm} {s : Pl} (h : PoolS B N w m s) (kk stop : Int) :
    Calls Try.prog 21 #[.pointer (some ⟨m.p, 0, none⟩), .int .i64 kk, .int .i64 stop] w fun e w' => ∃ A c, e = .returned (.slice A (stopL stop (s.pages kk)).length c) ∧ RowI w.heap.size w' A c (stopL stop (s.pages kk)) ∧ Ext w w' := by
  obtain ⟨i0, hi, hz0, hz1, hz2⟩ := info_split infoI
  have hlit := World.ownsRow_lit (base := w.heap.size + 1) (e := 3) (size := 1) (w.alloc (Obj.cells #[.int .i64 stop] 3)) #[] 0 (by simp) (by decide) rfl
  by_cases hs0 : stop = 0
  · subst hs0
    have e0 : stopL 0 (s.pages kk) = [] := by simp [stopL]
    rw [e0]
    go_enter Try.func21, Try.ntmps21
    go_wp2
    go_ret
    have hlit2 := hlit
    rw [World.size_alloc] at hlit2
    exact ⟨some ⟨w.heap.size + 1, 0, none⟩, 0, rfl, own_mono (own_ext hlit2 (ext_alloc _ _)) (Nat.le_succ _), (ext_alloc _ _).trans ((ext_alloc _ _).trans (ext_alloc _ _))⟩
  have hs1 : (stop == 0) = false := by simpa using hs0
  refine (callsIn_wide (n := 0)).1 ?_
  refine callsIn_of_wp_marks Try.func21 rfl trivial ?_
  simp only [Try.ntmps21, List.size_toArray, List.length_cons, List.length_nil, Nat.reduceAdd, Nat.reduceSub, Array.replicate_succ, Array.replicate_zero, List.push_toArray, List.append_toArray, List.nil_append, List.cons_append]
  have hnil := walkI_nil
  have hE3 := (ext_alloc w (Obj.cells #[.int .i64 stop] 3)).trans ((ext_alloc _ (Obj.cells #[] 3)).trans (ext_alloc _ (Obj.cells #[.slice (some ⟨w.heap.size + 1, 0, none⟩) 0 0] 22)))
  have hPG := pages_any (h.ext hE3) kk
  have hA := alloc3_atp w (Obj.cells #[.int .i64 stop] 3) (Obj.cells #[] 3) (Obj.cells #[.slice (some ⟨w.heap.size + 1, 0, none⟩) 0 0] 22)
  gi_wp2
  refine ⟨trivial, rfl, (callsIn_wide.2 hPG).mono ?_⟩
  rintro e w1 ⟨b, A, c, rfl, hb, hW, hE1⟩
  clear hPG
  obtain ⟨ha0, ha1, ha2, ha3⟩ := hA
  have hs1' := hE1.size
  rw [ha0] at hs1' hb
  have hb0 := hE1.blk ha1
  have hl0 := own_ext (own_ext hlit (ext_alloc _ (Obj.cells #[.slice (some ⟨w.heap.size + 1, 0, none⟩) 0 0] 22))) hE1
  have ho0 := hE1.blk ha3
  have hEw := hE3.trans hE1
  clear ha1 ha2 ha3 hlit
  have hfn := hnil b
  rw [World.size_alloc] at hl0
  have hpl : (s.pages kk).length ≤ 65536 := by
    have h1 := pgsTo_len s.sts kk s.cnt.length
    have h2 := h.ok.len.2
    unfold Pl.pages
    omega
  obtain ⟨l, hlv⟩ : ∃ l, s.pages kk = l := ⟨_, rfl⟩
  rw [hlv] at hW hpl
  have HLV := Lib.hid hlv
  clear hlv
  have hgw : ∀ q, (Value.slice A l.length c).ownBlock = some q → w.heap.size + 3 ≤ q ∧ q < w1.heap.size := fun q hq => by
    have := World.ownsRow.lt hW.row q hq
    rw [ha0] at this
    exact this
  have hbw := (Array.getElem?_eq_some_iff.1 hW.hd).1
  have hob := (Array.getElem?_eq_some_iff.1 ho0).1
  gi_wp2
  refine wpIn_rangeY (α := Int) rfl (enters_of Try.func40 (by kernel_rfl) rfl)
    (pages_seq (Dk := fun q => q = w.heap.size + 1 + 1 ∨ w1.heap.size + 2 ≤ q) hW (by omega) (by omega) (fun q hq h => by have := hgw q hq; omega))
    (fun q h => h.elim) (by omega) (by omega) (fun _ => rfl)
    (fun pre V => OutI (w.heap.size + 1 + 1) (w.heap.size + 1) w1 pre V ∧ (stop < 0 ∨ (pre.length : Int) < stop))
    (fun cc pre V => cc = .exit 0 ∧ OutI (w.heap.size + 1 + 1) (w.heap.size + 1) w1 pre V ∧ (pre.length : Int) = stop) ?hI ?hIx ?h0
    (fun x a' V => a' = { tmps := #[.pointer (some ⟨m.p, 0, none⟩), .int .i64 kk, .int .i64 stop, undef, undef, .pointer (some ⟨w.heap.size, 0, none⟩), .slice none 0 0, .pointer (some ⟨w.heap.size + 1 + 1, 0, none⟩), walkI b, .int .i64 x, .slice (some ⟨w.heap.size + 1, 0, none⟩) 0 0, .int .i64 stop, .bool false, undef, .pointer (some ⟨m.p, 0, none⟩), .int .i64 kk, walkI b, walkI b, .bool false, undef, walkI b, .int .i64 x, undef, undef, undef, undef, undef, undef, undef, undef, undef], defers := [] })
    ?hAx ?assign ?body ?done ?stop
  case hI =>
    rintro s' A' B' row ⟨x1, x3⟩ hg hrw
    exact ⟨x1.abide hg hrw, x3⟩
  case hIx =>
    rintro cc s' A' B' row ⟨x0, x1, x2⟩ hg hrw
    exact ⟨x0, x1.abide hg hrw, x2⟩
  case h0 =>
    refine ⟨⟨some ⟨w.heap.size + 1, 0, none⟩, 0, exc_refl _ _, ho0, hl0, .inl rfl⟩, ?_⟩
    show stop < 0 ∨ (0 : Int) < stop
    omega
  case hAx =>
    exact fun x a' A' B' row h _ _ => h
  case assign =>
    intro l2 y V K hsz hK
    gi_wp2
    exact hK _ _ (Below.refl _ _) (by first | rfl | (simp; done) | go_simp)
  case body =>
    rintro l2 pre x a' V ⟨⟨A', c', h1, h2, h3, h4⟩, hst⟩ rfl hsp hsz
    have h5 := h1.blk hb0 (by omega)
    have q5 := cell_of_row V w.heap.size 0 _ _ _ h5
    have q7 := cell_of_row V (w.heap.size + 1 + 1) 0 _ _ _ h2
    simp only [List.getElem?_toArray, List.getElem?_cons_zero] at q5 q7
    have hlp : pre.length < 65536 := by
      obtain ⟨t, ht⟩ := hsp
      have := congrArg List.length ht
      simp at this
      omega
    have hlo1 : w.heap.size + 1 ≤ w1.heap.size := by omega
    have hstep := fun (w3 : World) (A3 : Option Addr) (c3 : Nat) ho3 hc => OutI.step (w3 := w3) (A3 := A3) (c3 := c3) (x := x) hlo1 (show w.heap.size + 1 + 1 < w1.heap.size by omega) h1 h2 h3 h4 hsz ho3 hc (.inr trivial)
    obtain ⟨n, hn⟩ : ∃ n, pre.length = n := ⟨_, rfl⟩
    have hpn : ((pre ++ [x]).length : Int) = (n : Int) + 1 := by simp [hn]
    have h3' := h3
    have h2' := h2
    unfold RowI at h3'
    rw [hn] at h3' q7 hstep hst h2' hlp
    have HPN := Lib.hid hpn
    clear h3 h4 hpn hn h2
    by_cases heq : (n : Int) + 1 = stop
    · have hb1 : ((n : Int) + 1 == stop) = true := by simpa using heq
      have HEQ := Lib.hid heq
      clear heq
      gi_wp2_with (refine wpListIn_append_apart rfl _ _ 22 rfl (w.heap.size + 1) 3 i0 _ 1 8 Try.underlying22 hi hz0 hz1 hz2 rfl (by decide) _ n _ rfl (h3'.alloc _) ⟨V.heap.size, 0, none⟩ 1 1 [.int .i64 x] rfl rfl (news_int _ _ _) (int_one _) (by decide) (by unfold maxLen; omega) (by omega) (by simp; omega) ?_; intro v' w3 ho3 hc3; obtain ⟨A3, c3, rfl⟩ := slice_of_own ho3; have hb3 := app_blk (h3'.alloc _) hc3 ((ext_alloc V _).blk h2') (by decide); have q3 := cell_of_row _ _ 0 _ _ _ hb3; have f3 := frozen_of_row _ _ 0 _ _ hb3; simp only [List.getElem?_toArray, List.getElem?_cons_zero] at q3; have q3' := cell_of_row _ _ 0 _ _ _ (heap_setCell_same w3 (w.heap.size + 1 + 1) 0 _ _ (.slice A3 (n + 1) c3) hb3); have hb5 : w3.heap[w.heap.size]? = some (Obj.cells #[.int .i64 stop] 3) := (by obtain ⟨row, g1, r1⟩ := grown_row (h3'.alloc _) hc3; exact (g1.block _ (by simp; omega) (fun e => by have := (r1 _ e.symm).1; omega)).trans ((ext_alloc V _).blk h5)); have q5' := cell_of_row _ _ 0 _ _ _ (blk_keep (i := 0) (v := .slice A3 (n + 1) c3) hb5 (show w.heap.size ≠ w.heap.size + 1 + 1 by omega)); simp only [List.getElem?_toArray, List.getElem?_cons_zero, List.setIfInBounds_toArray, List.set_cons_zero] at q3' q5')
      obtain ⟨o1, o2⟩ := hstep w3 A3 c3 ho3 hc3
      exact ⟨⟨o2.os, o2.tape, o2.output, o2.size, fun q o ho hn => o2.block q o ho (fun e => hn (.inl e))⟩, rfl, o1, by rw [HPN.out]; exact HEQ.out⟩
    · have hb1 : ((n : Int) + 1 == stop) = false := by simpa using heq
      have HEQ := Lib.hid heq
      clear heq
      gi_wp2_with (refine wpListIn_append_apart rfl _ _ 22 rfl (w.heap.size + 1) 3 i0 _ 1 8 Try.underlying22 hi hz0 hz1 hz2 rfl (by decide) _ n _ rfl (h3'.alloc _) ⟨V.heap.size, 0, none⟩ 1 1 [.int .i64 x] rfl rfl (news_int _ _ _) (int_one _) (by decide) (by unfold maxLen; omega) (by omega) (by simp; omega) ?_; intro v' w3 ho3 hc3; obtain ⟨A3, c3, rfl⟩ := slice_of_own ho3; have hb3 := app_blk (h3'.alloc _) hc3 ((ext_alloc V _).blk h2') (by decide); have q3 := cell_of_row _ _ 0 _ _ _ hb3; have f3 := frozen_of_row _ _ 0 _ _ hb3; simp only [List.getElem?_toArray, List.getElem?_cons_zero] at q3; have q3' := cell_of_row _ _ 0 _ _ _ (heap_setCell_same w3 (w.heap.size + 1 + 1) 0 _ _ (.slice A3 (n + 1) c3) hb3); have hb5 : w3.heap[w.heap.size]? = some (Obj.cells #[.int .i64 stop] 3) := (by obtain ⟨row, g1, r1⟩ := grown_row (h3'.alloc _) hc3; exact (g1.block _ (by simp; omega) (fun e => by have := (r1 _ e.symm).1; omega)).trans ((ext_alloc V _).blk h5)); have q5' := cell_of_row _ _ 0 _ _ _ (blk_keep (i := 0) (v := .slice A3 (n + 1) c3) hb5 (show w.heap.size ≠ w.heap.size + 1 + 1 by omega)); simp only [List.getElem?_toArray, List.getElem?_cons_zero, List.setIfInBounds_toArray, List.set_cons_zero] at q3' q5')
      obtain ⟨o1, o2⟩ := hstep w3 A3 c3 ho3 hc3
      exact ⟨⟨o2.os, o2.tape, o2.output, o2.size, fun q o ho hn => o2.block q o ho (fun e => hn (.inl e))⟩, o1, by rw [HPN.out]; have := HEQ.out; omega⟩
  case stop =>
    rintro E cc pre V hsp ⟨rfl, ⟨A', c', h1, h2, h3, h4⟩, hlen⟩ hEs hKE
    have q7 := cell_of_row V (w.heap.size + 1 + 1) 0 _ _ _ h2
    simp only [List.getElem?_toArray, List.getElem?_cons_zero] at q7
    have hpre : stopL stop (s.pages kk) = pre := by
      rw [HLV.out]
      unfold stopL
      rw [if_neg (by omega), show stop.toNat = pre.length by omega]
      exact (List.prefix_iff_eq_take.1 hsp).symm
    have hEV : Ext w V := h1.to_ext hEw (fun q o e => by omega)
    have hR : RowI w.heap.size V A' c' pre := own_mono h3 (Nat.le_succ _)
    have HPR := Lib.hid hpre
    clear h1 h2 h3 h4 hlen hpre
    gi_wp2
    refine ⟨by simp, .inl ⟨_, _, rfl, run_takeDeferred hKE, ?_⟩⟩
    have hEE : Ext w (V.putObj E (.deferred none)) := ext_only hEV (grownBy_putObj' V E _) (by omega)
    have hRR : RowI w.heap.size (V.putObj E (.deferred none)) A' c' pre := by
      refine ⟨hR.1, ?_⟩
      rcases hR.2 with h0 | ⟨g, cap, cur, hv, hb', hg, r⟩
      · exact .inl h0
      · refine .inr ⟨g, cap, cur, hv, hb', (World.putObj_heap_other (fun e => ?_)).trans hg, r⟩
        subst e
        rw [hg] at hKE
        cases hKE
    exact ⟨_, results_tmp rfl _ _ _, A', c', by rw [HPR.out]; rfl, by rw [HPR.out]; exact hRR, hEE⟩
  case done =>
    rintro E xs V rfl ⟨⟨A', c', h1, h2, h3, h4⟩, hlen⟩ hEs hKE
    have q7 := cell_of_row V (w.heap.size + 1 + 1) 0 _ _ _ h2
    simp only [List.getElem?_toArray, List.getElem?_cons_zero] at q7
    have hpre : stopL stop (s.pages kk) = xs := by
      rw [HLV.out]
      unfold stopL
      split
      · rfl
      · exact List.take_of_length_le (by omega)
    have hEV : Ext w V := h1.to_ext hEw (fun q o e => by omega)
    have hR : RowI w.heap.size V A' c' xs := own_mono h3 (Nat.le_succ _)
    have HPR := Lib.hid hpre
    clear h1 h2 h3 h4 hlen hpre
    gi_wp2
    refine ⟨by simp, .inl ⟨_, _, rfl, run_takeDeferred hKE, ?_⟩⟩
    have hEE : Ext w (V.putObj E (.deferred none)) := ext_only hEV (grownBy_putObj' V E _) (by omega)
    have hRR : RowI w.heap.size (V.putObj E (.deferred none)) A' c' xs := by
      refine ⟨hR.1, ?_⟩
      rcases hR.2 with h0 | ⟨g, cap, cur, hv, hb', hg, r⟩
      · exact .inl h0
      · refine .inr ⟨g, cap, cur, hv, hb', (World.putObj_heap_other (fun e => ?_)).trans hg, r⟩
        subst e
        rw [hg] at hKE
        cases hKE
    exact ⟨_, results_tmp rfl _ _ _, A', c', by rw [HPR.out]; rfl, by rw [HPR.out]; exact hRR, hEE⟩
end Go.Proofs.Ytaalhicdeibodaa
