/- Contract of node.with. No condition but that what comes in lies in memory. -/
import Derived.Test.YtjjbckdiojleeaaNfresh
namespace Go.Proofs.Ytjjbckdiojleeaa
set_option linter.unusedVariables false
open Go.RowKit Go.Proofs
theorem OwnIts.push2 {B C : Nat} {w1 w2 : World} {A : Option Addr} {c : Nat} {l : List It} {ps : List (Value × Value)} (h : OwnIts B w1 A c l ps) (hlt : ∀ a ∈ flat ps, ∀ g, a.ownBlock = some g → g < C) (hB : B ≤ C) {x : It} {kA vA : Option Addr} {kc vc : Nat}
    (hk : Own 5 C w1 kA kc x.key) (hv : Own 5 C w1 vA vc x.val) (hn : NoShare (.slice kA x.key.length kc) (.slice vA x.val.length vc)) {v' : Value} {n : Nat} (hnl : n = l.length + 1)
    (hown : w2.ownsRow B 51 4 v' n (rowCells ps l ++ [.slice kA x.key.length kc, .slice vA x.val.length vc, .int .i64 x.ch, .int .i64 x.sz])) (hg : w1.grownBy w2 (Value.slice A l.length c).ownBlock) :
    ∃ A' c', v' = .slice A' (l.length + 1) c' ∧ OwnIts B w2 A' c' (l ++ [x]) (ps ++ [(.slice kA x.key.length kc, .slice vA x.val.length vc)]) := by
  subst hnl
  obtain ⟨A', c', rfl⟩ := slice_of_own hown
  have hl := h.each.length
  refine ⟨A', c', rfl, ?_, ?_, ?_⟩
  · rw [rowCells_append ps l _ _ hl, List.length_append]
    exact hown
  · have he : OwnEach B w1 (ps ++ [(.slice kA x.key.length kc, .slice vA x.val.length vc)]) (l ++ [x]) := h.each.append ⟨⟨kA, kc, rfl, hk.mono hB⟩, ⟨vA, vc, rfl, hv.mono hB⟩, trivial⟩
    refine OwnEach.grown hg he fun a ha g h1 h2 => ?_
    obtain ⟨bs, A2, c2, e, ho⟩ := he.mem a ha
    subst e
    exact ownBlock_type h.row ho (by decide) g h1 h2
  · rw [flat_append, flat_one]
    refine List.pairwise_append.2 ⟨h.apart, by simpa using hn, fun a ha b hb g h1 h2 => ?_⟩
    have hg1 := hlt a ha g h1
    simp only [List.mem_cons, List.not_mem_nil, or_false] at hb
    rcases hb with rfl | rfl
    · have := (hk.lt g h2).1; omega
    · have := (hv.lt g h2).1; omega
/-- What node.with has made so far: the page's box bears the slice iA, n, ic; the row of items lies at A, c. -/
structure WA (w0 w : World) (p : Pg) (iA : Option Addr) (n ic : Nat) (A : Option Addr) (c : Nat) (done : List It) (ps : List (Value × Value)) (dA : Option Addr) (dc : Nat) : Prop where
  b0 : w.heap[w0.heap.size]? = some (.cells #[.int .i64 p.kind, .int .i64 p.level, .slice iA n ic, .slice dA p.data.length dc, .int .i64 p.next] 26)
  b1 : w.heap[w0.heap.size + 1]? = some (.cells #[.int .i64 0, .int .i64 0, .slice none 0 0, .slice none 0 0, .int .i64 0] 26)
  its : OwnIts (w0.heap.size + 2) w A c done ps
  dat : Own 5 (w0.heap.size + 2) w dA dc p.data
  ns : ∀ a ∈ flat ps, NoShare (.slice dA p.data.length dc) a
  e : Ext w0 w
theorem WA.ext {w0 w w' : World} {p : Pg} {iA : Option Addr} {n ic : Nat} {A : Option Addr} {c : Nat} {done : List It} {ps : List (Value × Value)} {dA : Option Addr} {dc : Nat} (h : WA w0 w p iA n ic A c done ps dA dc) (he : Ext w w') : WA w0 w' p iA n ic A c done ps dA dc :=
  ⟨he.blk h.b0, he.blk h.b1, h.its.ext he, h.dat.ext he, h.ns, h.e.trans he⟩
theorem WA.lt {w0 w : World} {p : Pg} {iA : Option Addr} {n ic : Nat} {A : Option Addr} {c : Nat} {done : List It} {ps : List (Value × Value)} {dA : Option Addr} {dc : Nat} (h : WA w0 w p iA n ic A c done ps dA dc) : ∀ a ∈ flat ps, ∀ g, a.ownBlock = some g → g < w.heap.size := fun a ha g hg => by
  obtain ⟨bs, A2, c2, e, ho⟩ := h.its.each.mem a ha
  subst e
  exact (ho.lt g hg).2
/-- Behind an append. -/
theorem WA.push {C : Nat} {w0 w1 w2 : World} {p : Pg} {iA : Option Addr} {n ic : Nat} {A : Option Addr} {c : Nat} {done : List It} {ps : List (Value × Value)} {dA : Option Addr} {dc : Nat} (h : WA w0 w1 p iA n ic A c done ps dA dc)
    (hlt : ∀ a ∈ flat ps, ∀ g, a.ownBlock = some g → g < C) (hld : ∀ g, (Value.slice dA p.data.length dc).ownBlock = some g → g < C) (hB : w0.heap.size + 2 ≤ C) {x : It} {kA vA : Option Addr} {kc vc : Nat}
    (hk : Own 5 C w1 kA kc x.key) (hv : Own 5 C w1 vA vc x.val) (hn : NoShare (.slice kA x.key.length kc) (.slice vA x.val.length vc)) {v' : Value} {m : Nat} (hnl : m = done.length + 1)
    (hown : w2.ownsRow (w0.heap.size + 2) 51 4 v' m (rowCells ps done ++ [.slice kA x.key.length kc, .slice vA x.val.length vc, .int .i64 x.ch, .int .i64 x.sz])) (hg : w1.grownBy w2 (Value.slice A done.length c).ownBlock) :
    ∃ A' c', v' = .slice A' (done.length + 1) c' ∧ WA w0 w2 p iA n ic A' c' (done ++ [x]) (ps ++ [(.slice kA x.key.length kc, .slice vA x.val.length vc)]) dA dc := by
  obtain ⟨A', c', e, ho⟩ := h.its.push2 hlt hB hk hv hn hnl hown hg
  have hrow : ∀ g, (Value.slice A done.length c).ownBlock = some g → w0.heap.size + 2 ≤ g := fun g hg => (h.its.row.lt g hg).1
  refine ⟨A', c', e, ?_, ?_, ho, World.ownsRow.kept h.dat hg ?_, fun a ha => ?_, h.e.grown hg h.e.size (fun j hj => by have := hrow j hj; omega)⟩
  · exact (hg.block _ (Array.getElem?_eq_some_iff.1 h.b0).1 (fun e => by have := hrow _ e.symm; omega)).trans h.b0
  · exact (hg.block _ (Array.getElem?_eq_some_iff.1 h.b1).1 (fun e => by have := hrow _ e.symm; omega)).trans h.b1
  · cases hd : (Value.slice dA p.data.length dc).ownBlock with
    | none => exact .inl rfl
    | some q => exact .inr fun e => ownBlock_type h.its.row h.dat (by decide) q e.symm hd
  · rw [flat_append, flat_one, List.mem_append] at ha
    rcases ha with ha | ha
    · exact h.ns a ha
    · simp only [List.mem_cons, List.not_mem_nil, or_false] at ha
      intro g h1 h2
      have := hld g h1
      rcases ha with rfl | rfl
      · have := (hk.lt g h2).1; omega
      · have := (hv.lt g h2).1; omega
/-- The page's box bears what was made. -/
structure WithS (w0 w : World) (p : Pg) (done : List It) : Prop where
  mk_ ::
  ex : ∃ iA ic dA dc ps, WA w0 w p iA done.length ic iA ic done ps dA dc
theorem WithS.ext {w0 w w' : World} {p : Pg} {done : List It} (h : WithS w0 w p done) (he : Ext w w') : WithS w0 w' p done := by
  obtain ⟨iA, ic, dA, dc, ps, k⟩ := h.ex
  exact ⟨iA, ic, dA, dc, ps, k.ext he⟩
/-- An item in new memory. -/
def FreshIt (C : Nat) (x : It) (v : Value) (w : World) : Prop := ∃ kA kc vA vc, v = .agg #[.slice kA x.key.length kc, .slice vA x.val.length vc, .int .i64 x.ch, .int .i64 x.sz] ∧ Own 5 C w kA kc x.key ∧ Own 5 C w vA vc x.val ∧ NoShare (.slice kA x.key.length kc) (.slice vA x.val.length vc)
theorem FreshIt.lasts {D : Nat → Obj → Prop} {C : Nat} (hd : ∀ k o, D k o → k < C) (x : It) (v : Value) : Lasts (Exc D) (FreshIt C x v) := fun w w' ⟨kA, kc, vA, vc, h1, h2, h3, h4⟩ hx =>
  ⟨kA, kc, vA, vc, h1, ownsRow_exc h2 hx (fun k cs h e => by have := hd _ _ e; omega), ownsRow_exc h3 hx (fun k cs h e => by have := hd _ _ e; omega), h4⟩
/-- A slice of one item, laid for an append. -/
def BuiltIt (C : Nat) (u v : Value) (w : World) : Prop := ∃ h cs, v = .slice (some ⟨h, 0, none⟩) 1 1 ∧ C ≤ h ∧ u = .agg cs ∧ w.heap[h]? = some (.cells cs 51)
theorem BuiltIt.lasts {D : Nat → Obj → Prop} {C : Nat} (hd : ∀ k o, D k o → k < C) (u v : Value) : Lasts (Exc D) (BuiltIt C u v) := fun w w' ⟨h, cs, h1, h2, h3, h4⟩ hx => ⟨h, cs, h1, h2, h3, hx.blk h4 (fun e => by have := hd _ _ e; omega)⟩
/-- The pieces of a page's items, as a slice of slices. -/
def Pcs (w : World) (pA : Option Addr) (qs : List (List It)) : Prop := 0 < qs.length → ∃ b o, pA = some ⟨b, o, none⟩ ∧ ∀ j q, qs[j]? = some q → ∃ A n c, w.cell? ⟨b, o + j, none⟩ = some (.slice A n c) ∧ n = q.length ∧ Its w A c q
def joined (qs : List (List It)) : List It := qs.flatMap id
theorem joined_append (a b : List (List It)) : joined (a ++ b) = joined a ++ joined b := by simp [joined]
theorem joined_cons (q : List It) (b : List (List It)) : joined (q :: b) = q ++ joined b := by simp [joined]
set_option maxHeartbeats 2000000 in
theorem with_any {v : Value} {p : Pg} {pA : Option Addr} {m pc : Nat} {qs : List (List It)} {w : World} (hv : PgV w v p) (hq : Pcs w pA qs) (hm : m = qs.length) (hmc : m ≤ pc) (hpc : pc ≤ 9223372036854775807) (ht : (joined qs).length ≤ 2199023255552) :
    Calls Try.prog 61 #[v, .slice pA m pc] w fun e w' => ∃ v', e = .returned v' ∧ PgO w.heap.size w' v' { p with items := joined qs } ∧ Ext w w' := by
  subst hm
  obtain ⟨i0, hii, hz0, hz1, hz2⟩ := info_parts infoItem
  obtain ⟨iA, ic, dA, dc, rfl, hi, hd⟩ := hv.ex
  clear hv hi
  go_enter Try.func61, Try.ntmps61
  go_wp2_with fail
  refine (clone_any (hd.ext ((ext_alloc _ _).trans (ext_alloc _ _))) rfl).mono ?_
  rintro e w1 ⟨dA', dc', rfl, hod, hE1⟩
  have b1 := hE1.blk (heap_alloc2_old w (.cells #[.int .i64 p.kind, .int .i64 p.level, .slice iA p.items.length ic, .slice dA p.data.length dc, .int .i64 p.next] 26) (.cells #[.int .i64 0, .int .i64 0, .slice none 0 0, .slice none 0 0, .int .i64 0] 26))
  have b2 := hE1.blk (heap_alloc2_new w (.cells #[.int .i64 p.kind, .int .i64 p.level, .slice iA p.items.length ic, .slice dA p.data.length dc, .int .i64 p.next] 26) (.cells #[.int .i64 0, .int .i64 0, .slice none 0 0, .slice none 0 0, .int .i64 0] 26))
  have hE2 := ((ext_alloc w (.cells #[.int .i64 p.kind, .int .i64 p.level, .slice iA p.items.length ic, .slice dA p.data.length dc, .int .i64 p.next] 26)).trans (ext_alloc _ (.cells #[.int .i64 0, .int .i64 0, .slice none 0 0, .slice none 0 0, .int .i64 0] 26))).trans hE1
  have c0 := cell_of_row w1 w.heap.size 2 _ _ _ b1
  have c1 := cell_of_row w1 w.heap.size 3 _ _ _ b1
  have f0 := frozen_of_row w1 w.heap.size 2 _ _ b1
  have f1 := frozen_of_row w1 w.heap.size 3 _ _ b1
  simp at c0 c1
  have b3 := heap_setCell_same w1 w.heap.size 3 _ _ (.slice dA' p.data.length dc') b1
  have b4 := heap_setCell_same _ w.heap.size 2 _ _ (.slice none 0 0) b3
  have x1 := setCell_exc w1 w.heap.size 3 (.slice dA' p.data.length dc')
  have x2 := x1.trans (setCell_exc _ w.heap.size 2 (.slice none 0 0))
  have hS : WithS w ((w1.setCell ⟨w.heap.size, 3, none⟩ (.slice dA' p.data.length dc')).setCell ⟨w.heap.size, 2, none⟩ (.slice none 0 0)) p [] := by
    refine ⟨none, 0, dA', dc', [], ⟨by simpa using b4, x2.blk b2 (by omega), OwnIts.nil _ _, ?_, fun a ha => by simp [flat] at ha, x2.to_ext hE2 (fun k _ hk => by omega)⟩⟩
    refine ownsRow_exc (ownsRow_mono hod (by simp)) x2 (fun k cs h1 h2 => ?_)
    omega
  clear b1 b2 b3 b4 x1 x2 hod hE1 hE2
  go_wp2
  go_loopw [16] (fun i wr => ∃ (pq sq : List (List It)), qs = pq ++ sq ∧ i = .int .i64 (pq.length : Nat) ∧ WithS w wr p (joined pq)) (fun i _ => qs.length - (intOf i).toNat)
  case atStart => exact ⟨[], qs, rfl, rfl, hS⟩
  case round =>
    clear hS c0 c1 f0 f1
    obtain ⟨pq, sq, hsp, rfl, hS⟩ := hrel
    obtain ⟨wo, rfl⟩ : ∃ wo : World, wo = wr := ⟨_, rfl⟩
    cases sq with
    | nil =>
      rw [List.append_nil] at hsp
      subst hsp
      obtain ⟨iA', ic', dA2, dc2, ps, b0, b1, hown, hda, hns, hE⟩ := hS.ex
      have c0 := cell_of_row wo w.heap.size 0 _ _ _ b0
      have c1 := cell_of_row wo w.heap.size 1 _ _ _ b0
      have c2 := cell_of_row wo w.heap.size 2 _ _ _ b0
      have c3 := cell_of_row wo w.heap.size 3 _ _ _ b0
      have c4 := cell_of_row wo w.heap.size 4 _ _ _ b0
      simp at c0 c1 c2 c3 c4
      have HN := Lib.hid hns
      clear hns
      go_wp2_with (refine wpList_store_box rfl 26 _ _ rfl (w.heap.size + 1) _ rfl rfl 26 _ b1 (by kernel_rfl) rfl (by simp [Value.oneCell']) (fun w4 hb hg => ?_))
      have hx := Exc.of_only (D := fun q _ => q = w.heap.size + 1) hg (fun _ _ => rfl)
      exact bodyPost_ret (results_cell_row rfl _ _ _ _ _ _ _ rfl hb Try.underlying26 rfl (by kernel_rfl)) rfl
        ⟨_, rfl, ⟨iA', ic', dA2, dc2, ps, rfl, (hown.exc hx (fun k cs h1 h2 => by omega) (fun k cs h1 h2 => by omega)).mono (by omega), ownsRow_mono (ownsRow_exc hda hx (fun k cs h1 h2 => by omega)) (by omega), HN.out⟩, ext_only hE hg (by omega)⟩
    | cons q sq =>
      have hqx := split_at hsp
      have hlt : pq.length < qs.length := by rw [hsp]; simp
      obtain ⟨b, o, rfl, hcq⟩ := hq (by omega)
      obtain ⟨qA, qn, qc, hqc, rfl, hqi⟩ := hcq _ q hqx
      have HS := Lib.hid hsp
      have hE := (fun (h : WithS w wo p (joined pq)) => h.ex.choose_spec.choose_spec.choose_spec.choose_spec.choose_spec.e) hS
      have hqc' := hE.cell hqc
      have hqi' := hqi.len
      have htot : (joined pq).length + q.length ≤ 2199023255552 := by
        have := ht
        rw [hsp, joined_append, joined_cons] at this
        simp only [List.length_append] at this
        omega
      clear hqx hcq hqc hsp
      go_wp2
      go_loopw [22] (fun i wr => ∃ (pre suf : List It), q = pre ++ suf ∧ i = .int .i64 (pre.length : Nat) ∧ WithS w wr p (joined pq ++ pre)) (fun i _ => q.length - (intOf i).toNat)
      case atStart => exact ⟨[], q, rfl, rfl, by rw [List.append_nil]; exact hS⟩
      case round =>
        clear hS hE hqc'
        obtain ⟨pre, suf, hspl, rfl, hS⟩ := hrel
        cases suf with
        | nil =>
          rw [List.append_nil] at hspl
          have hle : q.length ≤ pre.length := by rw [hspl]; exact Nat.le_refl _
          have HP := Lib.hid hspl
          clear hspl
          go_wp2
          go_roundw
          case rel => exact ⟨pq ++ [q], sq, by rw [HS.out]; simp, by simp, by rw [joined_append, joined_cons, HP.out]; simpa [joined] using hS⟩
          case measure => simp [intOf]; omega
        | cons x suf =>
          have hx := split_at hspl
          have hlt2 : pre.length < q.length := by rw [hspl]; simp
          obtain ⟨iA', ic', dA2, dc2, ps, hA⟩ := hS.ex
          obtain ⟨b', o', hqA, hcx⟩ := hqi.rd (by omega)
          subst hqA
          obtain ⟨kA, kc, vA, vc, x0, x1, x2, x3, xkw, xvw⟩ := hcx _ x hx
          replace x0 := hA.e.cell x0
          replace x1 := hA.e.cell x1
          replace x2 := hA.e.cell x2
          replace x3 := hA.e.cell x3
          have HX := Lib.hid hspl
          clear hx hcx hspl hS
          go_wp2_with (refine wpList_store_box rfl 51 _ _ rfl wr.heap.size _ rfl rfl 51 _ (heap_alloc_new _ _) (by kernel_rfl) rfl (by simp [Value.oneCell']) (fun w4 hb hg => ?_); have hE4 := ext_only (ext_alloc wr _) hg (Nat.le_refl _); clear hg)
          have hA4 := hA.ext hE4
          have hr4 : wr.heap.size < w4.heap.size := (Array.getElem?_eq_some_iff.1 hb).1
          have hlen : (joined pq ++ pre).length < 2199023255552 := by rw [List.length_append]; omega
          clear hA x0 x1 x2 x3
          generalize hdn : joined pq ++ pre = done at hA4 hlen
          have HDN := Lib.hid hdn
          clear hdn
          have hD : ∀ (k : Nat) (o : Obj), k = w.heap.size ∨ (Value.slice iA' done.length ic').ownBlock = some k → k < w4.heap.size := fun k _ hk => by
            rcases hk with rfl | hk
            · exact (Array.getElem?_eq_some_iff.1 hA4.b0).1
            · exact (hA4.its.row.lt k hk).2
          have hDw : ∀ (k : Nat) (o : Obj), k = w.heap.size ∨ (Value.slice iA' done.length ic').ownBlock = some k → w.heap.size ≤ k := fun k _ hk => by
            rcases hk with rfl | hk
            · exact Nat.le_refl _
            · have := (hA4.its.row.lt k hk).1; omega
          refine wp_region_rg (Exc fun k _ => k = w.heap.size ∨ (Value.slice iA' done.length ic').ownBlock = some k) (rel_exc _) (fun w' => WA w w' p iA' done.length ic' iA' ic' done ps dA2 dc2) [0, 1, 2, 3, 4, 5, 6, 7] (fun i => match i with
            | 3 => some fun _ => FreshIt w4.heap.size x
            | 4 => some fun V => BuiltIt w4.heap.size (V 3)
            | _ => none) (fun i => match i with
            | 5 => some fun V v w' => ∃ A c qs, v = .slice A (done.length + 1) c ∧ WA w w' p iA' done.length ic' A c (done ++ [x]) qs dA2 dc2
            | 7 => some fun V _ w' => WithS w w' p (done ++ [x])
            | _ => none) (fun i => match i with | 1 => true | 2 => true | _ => false) (by kernel_rfl) (by kernel_rfl) (fun _ _ h he => h.ext he) (hA4.ext (ext_drew _)) (fun W N hW hF0 hN => ?_)
          have hEW : Exc (fun k _ => k = w.heap.size ∨ (Value.slice iA' done.length ic').ownBlock = some k) w4 W := Exc.of_ext hW
          have hAW := hA4.ext hW
          have e2 : ∀ w', Ext W w' → w'.cell? ⟨w.heap.size, 2, none⟩ = some (.slice iA' done.length ic') := fun w' h => cell_of_row _ _ _ _ _ _ (h.blk hAW.b0)
          have y0 : ∀ w', Ext W w' → w'.cell? ⟨wr.heap.size, 0, none⟩ = some (.slice kA x.key.length kc) := fun w' h => cell_of_row _ _ _ _ _ _ (h.blk (hW.blk hb))
          have y1 : ∀ w', Ext W w' → w'.cell? ⟨wr.heap.size, 1, none⟩ = some (.slice vA x.val.length vc) := fun w' h => cell_of_row _ _ _ _ _ _ (h.blk (hW.blk hb))
          have y2 : ∀ w', Ext W w' → w'.cell? ⟨wr.heap.size, 2, none⟩ = some (.int .i64 x.ch) := fun w' h => cell_of_row _ _ _ _ _ _ (h.blk (hW.blk hb))
          have y3 : ∀ w', Ext W w' → w'.cell? ⟨wr.heap.size, 3, none⟩ = some (.int .i64 x.sz) := fun w' h => cell_of_row _ _ _ _ _ _ (h.blk (hW.blk hb))
          repeat (first | (apply wpR_one; (case ho => (simp only [List.getElem?_toArray, List.getElem?_cons_succ, List.getElem?_cons_zero]; try exact rfl)); (case hw => rfl); (case hl => rfl); (case hsp => rfl); (case he => rfl); (case hv => (intro w' hw'; (try (have hw2 := Ext.trans hEW hw')); (try (have hw3 := Exc.trans hEW hw')); (try (have hw4 := Exk.trans hEW hw')); (try (have hw5 := Mrk.trans hEW hw')); go_simp; exact rfl)); (case hw0 => (first | exact Below.refl _ _ | exact Exc.of_ext (Below.refl _ _) | exact Exk.of_ext (Below.refl _ _) | exact Mrk.of_ext (Below.refl _ _))); simp only [Act.put, List.setIfInBounds_toArray, List.set_cons_succ, List.set_cons_zero]) | (apply wpR_early; (case ho => (simp only [List.getElem?_toArray, List.getElem?_cons_succ, List.getElem?_cons_zero]; try exact rfl)); (case hw => rfl); (case hl => rfl); (case hsp => rfl); (case he => rfl); (case hv => (intro w' hw'; (try have hw2 := Ext.trans hEW hw'); go_simp; exact rfl)); simp only [Act.put, List.setIfInBounds_toArray, List.set_cons_succ, List.set_cons_zero]) | (apply wpR_pass; (case ho => (simp only [List.getElem?_toArray, List.getElem?_cons_succ, List.getElem?_cons_zero]; try exact rfl)); (case hw => rfl); (case hl => rfl); simp only [Act.put, List.setIfInBounds_toArray, List.set_cons_succ, List.set_cons_zero]))
          refine wpR_new (by ((simp only [List.getElem?_toArray, List.getElem?_cons_succ, List.getElem?_cons_zero]; try exact rfl))) _ rfl rfl rfl (fun V v => FreshIt.lasts hD _ _) (fun V V' h => rfl) (fun w' hw' hK => ?_) (fun v hv => ?_)
          · have hX := (hEW.trans hw').size
            have hXE : Ext w w' := (hEW.trans hw').to_ext hA4.e hDw
            unfold opAt; go_simp; refine upAt_enter ?_
            refine (nfresh_any (xkw.ext hXE) (xvw.ext hXE)).mono ?_
            rintro e w2 ⟨A1, c1, A2, c2, rfl, o1, o2, hn, hE2⟩
            exact ⟨_, rfl, hE2, A1, c1, A2, c2, rfl, o1.mono hX, o2.mono hX, hn⟩
          obtain ⟨kA', kc', vA', vc', rfl⟩ : ∃ A c A' c', v = .agg #[.slice A x.key.length c, .slice A' x.val.length c', .int .i64 x.ch, .int .i64 x.sz] := by
            obtain ⟨_, _, _, A, c, A', c', h, _⟩ := hv
            exact ⟨A, c, A', c', h⟩
          clear hv
          simp only [Act.put, List.setIfInBounds_toArray, List.set_cons_succ, List.set_cons_zero]
          refine wpR_new (by ((simp only [List.getElem?_toArray, List.getElem?_cons_succ, List.getElem?_cons_zero]; try exact rfl))) _ rfl rfl rfl (fun V v => BuiltIt.lasts hD _ _) (fun V V' h => by simp only [h 3 (by kernel_rfl)]) (fun w' hw' hK => ?_) (fun v hv => ?_)
          · have hX := (hEW.trans hw').size
            unfold opAt
            go_simp
            exact upAt_value ⟨ext_alloc _ _, _, _, rfl, hX, rfl, heap_alloc_new _ _⟩
          obtain ⟨h, rfl⟩ : ∃ h, v = .slice (some ⟨h, 0, none⟩) 1 1 := by
            obtain ⟨_, _, _, h, _, e, _⟩ := hv
            exact ⟨h, e⟩
          clear hv
          simp only [Act.put, List.setIfInBounds_toArray, List.set_cons_succ, List.set_cons_zero]
          refine wpR_late (by ((simp only [List.getElem?_toArray, List.getElem?_cons_succ, List.getElem?_cons_zero]; try exact rfl))) _ rfl rfl (fun V v w' w2 ⟨A, c, qs, h1, h2⟩ he => ⟨A, c, qs, h1, h2.ext he⟩) (fun V V' h => rfl) (fun w' hw' hK hF => ?_) (fun v hv => ?_)
          · have hF2 : WA w w' p iA' done.length ic' iA' ic' done ps dA2 dc2 := hF
            obtain ⟨kA3, kc3, vA3, vc3, e3, ok, ov, hns⟩ := (hK 3 (by kernel_rfl)).2
            obtain ⟨h', cs, e4, _, e5, hbk⟩ := (hK 4 (by kernel_rfl)).2
            injection e3 with e3
            simp only [Array.mk.injEq, List.cons.injEq, Value.slice.injEq, true_and, and_true] at e3
            obtain ⟨⟨rfl, rfl⟩, rfl, rfl⟩ := e3
            injection e4 with e4
            injection e4 with e4
            injection e4 with e4
            subst e4
            injection e5 with e5
            subst e5
            have hX := (hEW.trans hw').size
            have hnews : ∀ j u, ([.slice kA' x.key.length kc', .slice vA' x.val.length vc', .int .i64 x.ch, .int .i64 x.sz] : List Value)[j]? = some u → w'.cell? ((⟨h, 0, none⟩ : Addr).add j) = some u := fun j u hj => by
              rw [Addr.add_lit, cell_of_row _ _ _ _ _ _ hbk, Nat.zero_add]
              simpa using hj
            have hC : w.heap.size + 2 ≤ w4.heap.size := (Array.getElem?_eq_some_iff.1 hA4.b1).1
            refine opAt_list rfl #[] (fun Q hQ => ?_)
            refine wpList_append_own _ rfl _ _ 23 rfl (w.heap.size + 2) 51 i0 _ 4 64 Try.underlying23 hii hz0 hz1 hz2 rfl (by decide) _ _ _ rfl hF2.its.row ⟨h, 0, none⟩ 1 1 [.slice kA' x.key.length kc', .slice vA' x.val.length vc', .int .i64 x.ch, .int .i64 x.sz] rfl rfl hnews (by simp [Value.oneCell']) (by simp [maxLen]; omega) (by omega) (by omega) ?_
            intro v' w2 hown2 hgrow2 _
            obtain ⟨A', c', rfl, hA'⟩ := hF2.push hA4.lt (fun g hg => (hA4.dat.lt g hg).2) hC ok ov hns rfl hown2 hgrow2
            exact hQ _ _ ⟨Exc.of_grown hgrow2 (fun g o hg _ => .inr hg), _, _, _, rfl, hA'⟩
          obtain ⟨A5, c5, rfl⟩ : ∃ A c, v = .slice A (done.length + 1) c := by
            obtain ⟨_, _, A, c, _, e, _⟩ := hv
            exact ⟨A, c, e⟩
          clear hv
          simp only [Act.put, List.setIfInBounds_toArray, List.set_cons_succ, List.set_cons_zero]
          repeat (first | (apply wpR_one; (case ho => (simp only [List.getElem?_toArray, List.getElem?_cons_succ, List.getElem?_cons_zero]; try exact rfl)); (case hw => rfl); (case hl => rfl); (case hsp => rfl); (case he => rfl); (case hv => (intro w' hw'; (try (have hw2 := Ext.trans hEW hw')); (try (have hw3 := Exc.trans hEW hw')); (try (have hw4 := Exk.trans hEW hw')); (try (have hw5 := Mrk.trans hEW hw')); go_simp; exact rfl)); (case hw0 => (first | exact Below.refl _ _ | exact Exc.of_ext (Below.refl _ _) | exact Exk.of_ext (Below.refl _ _) | exact Mrk.of_ext (Below.refl _ _))); simp only [Act.put, List.setIfInBounds_toArray, List.set_cons_succ, List.set_cons_zero]) | (apply wpR_early; (case ho => (simp only [List.getElem?_toArray, List.getElem?_cons_succ, List.getElem?_cons_zero]; try exact rfl)); (case hw => rfl); (case hl => rfl); (case hsp => rfl); (case he => rfl); (case hv => (intro w' hw'; (try have hw2 := Ext.trans hEW hw'); go_simp; exact rfl)); simp only [Act.put, List.setIfInBounds_toArray, List.set_cons_succ, List.set_cons_zero]) | (apply wpR_pass; (case ho => (simp only [List.getElem?_toArray, List.getElem?_cons_succ, List.getElem?_cons_zero]; try exact rfl)); (case hw => rfl); (case hl => rfl); simp only [Act.put, List.setIfInBounds_toArray, List.set_cons_succ, List.set_cons_zero]))
          refine wpR_late (by ((simp only [List.getElem?_toArray, List.getElem?_cons_succ, List.getElem?_cons_zero]; try exact rfl))) _ rfl rfl (fun V v w' w2 h he => h.ext he) (fun V V' h => rfl) (fun w' hw' hK hF => ?_) (fun v hv => ?_)
          · obtain ⟨A6, c6, qs6, e6, h6⟩ := hF
            have c2 := cell_of_row w' w.heap.size 2 _ _ _ h6.b0
            have f2 := frozen_of_row w' w.heap.size 2 _ _ h6.b0
            simp at c2
            injection e6 with e61 _ e62
            subst e61 e62
            have hx6 := setCell_exc w' w.heap.size 2 (.slice A5 (done.length + 1) c5)
            have hb6 := heap_setCell_same w' w.heap.size 2 _ _ (.slice A5 (done.length + 1) c5) h6.b0
            have hW6 : WithS w (w'.setCell ⟨w.heap.size, 2, none⟩ (.slice A5 (done.length + 1) c5)) p (done ++ [x]) :=
              ⟨A5, c5, dA2, dc2, qs6, by simpa using hb6, hx6.blk h6.b1 (by omega), h6.its.exc hx6 (fun k cs h1 h2 => by omega) (fun k cs h1 h2 => by omega), ownsRow_exc h6.dat hx6 (fun k cs h1 h2 => by omega), h6.ns, hx6.to_ext h6.e (fun k _ hk => by omega)⟩
            clear hb6 e2 y0 y1 y2 y3 h6 hK
            unfold opAt
            go_simp
            exact upAt_skip ⟨⟨hx6.os, hx6.tape, hx6.output, hx6.size, fun k o h1 h2 => hx6.block k o h1 (fun e => h2 (.inl e))⟩, hW6⟩
          clear hv
          apply wpR_nil
          apply hN
          intro w5 hE' hK hF
          have hF5 : WithS w w5 p (done ++ [x]) := hF
          clear hK hN hF e2 y0 y1 y2 y3 hAW hEW hE' hA4 hD hb hE4
          go_wp2
          go_roundw
          case rel => exact ⟨pre ++ [x], suf, by rw [HX.out]; simp, by simp, by rw [← List.append_assoc, HDN.out]; exact hF5⟩
          case measure => simp [intOf]; omega
end Go.Proofs.Ytjjbckdiojleeaa
