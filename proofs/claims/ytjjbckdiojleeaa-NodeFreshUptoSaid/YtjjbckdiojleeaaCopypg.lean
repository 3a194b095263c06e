/- Contracts of CopyItems and CopyPage. No condition but that what comes in lies in memory. -/
import Derived.Test.YtjjbckdiojleeaaPage
import Derived.Test.YtjjbckdiojleeaaItems
namespace Go.Proofs.Ytjjbckdiojleeaa
set_option linter.unusedVariables false
open Go.RowKit Go.Proofs
theorem infoItem : (Try.prog.info? 51).map (fun i => (i.zero, i.size, i.bytes)) = some (some (.agg #[.slice none 0 0, .slice none 0 0, .int .i64 0, .int .i64 0]), 4, 64) := by kernel_rfl
theorem OwnEach.grown {B : Nat} {w w' : World} {row : Option Nat} (hg : w.grownBy w' row) : ∀ {ps : List (Value × Value)} {xs : List It}, OwnEach B w ps xs → (∀ a ∈ flat ps, ∀ g, row = some g → a.ownBlock ≠ some g) → OwnEach B w' ps xs
  | [], [], _, _ => trivial
  | p :: ps, x :: xs, h, hne => by
    have k : ∀ {v : Value} {bs : List UInt8}, SOwn 5 B bs v w → (∀ g, row = some g → v.ownBlock ≠ some g) → SOwn 5 B bs v w' := fun {v bs} ⟨A, c, hv, ho⟩ hn => by
      subst hv
      exact ⟨A, c, rfl, World.ownsRow.kept ho hg (by
        cases hv : (Value.slice A bs.length c).ownBlock with
        | none => exact .inl rfl
        | some k => exact .inr fun e => hn k (by rw [e]) hv)⟩
    simp only [flat, List.flatMap_cons, List.cons_append, List.nil_append, List.mem_cons] at hne
    exact ⟨k h.1 (hne _ (.inl rfl)), k h.2.1 (hne _ (.inr (.inl rfl))), OwnEach.grown hg h.2.2 fun a ha => hne a (.inr (.inr ha))⟩
  | [], x :: xs, h, _ => h.elim
  | p :: ps, [], h, _ => h.elim
/-- One item more. -/
theorem OwnIts.push {B : Nat} {w0 w1 w2 : World} {A : Option Addr} {c : Nat} {l : List It} {ps : List (Value × Value)} (h : OwnIts B w0 A c l ps) (hE : Ext w0 w1) (hB : B ≤ w0.heap.size) {x : It} {kA vA : Option Addr} {kc vc : Nat}
    (hk : Own 5 w0.heap.size w1 kA kc x.key) (hv : Own 5 w0.heap.size w1 vA vc x.val) (hn : NoShare (.slice kA x.key.length kc) (.slice vA x.val.length vc)) (o : Obj) {v' : Value} {n : Nat} (hnl : n = l.length + 1)
    (hown : w2.ownsRow B 51 4 v' n (rowCells ps l ++ [.slice kA x.key.length kc, .slice vA x.val.length vc, .int .i64 x.ch, .int .i64 x.sz])) (hg : (w1.alloc o).grownBy w2 (Value.slice A l.length c).ownBlock) :
    ∃ A' c', v' = .slice A' (l.length + 1) c' ∧ OwnIts B w2 A' c' (l ++ [x]) (ps ++ [(.slice kA x.key.length kc, .slice vA x.val.length vc)]) := by
  subst hnl
  obtain ⟨A', c', rfl⟩ := slice_of_own hown
  have hl := h.each.length
  refine ⟨A', c', rfl, ?_, ?_, ?_⟩
  · rw [rowCells_append ps l _ _ hl, List.length_append]
    exact hown
  · have hrow : ∀ a bs, (∃ B', SOwn 5 B' bs a (w1.alloc o)) → ∀ g, (Value.slice A l.length c).ownBlock = some g → a.ownBlock ≠ some g := fun a bs ⟨B', A2, c2, e, ho⟩ g h1 h2 => by
      subst e
      exact ownBlock_type ((h.ext (hE.trans (ext_alloc _ o))).row) ho (by decide) g h1 h2
    have he : OwnEach B (w1.alloc o) (ps ++ [(.slice kA x.key.length kc, .slice vA x.val.length vc)]) (l ++ [x]) := by
      refine (h.each.ext (hE.trans (ext_alloc _ o))).append ?_
      exact ⟨⟨kA, kc, rfl, (hk.mono hB).ext (ext_alloc _ o)⟩, ⟨vA, vc, rfl, (hv.mono hB).ext (ext_alloc _ o)⟩, trivial⟩
    refine OwnEach.grown hg he fun a ha => ?_
    obtain ⟨bs, hs⟩ := he.mem a ha
    exact hrow a bs ⟨B, hs⟩
  · rw [flat_append, flat_one]
    refine List.pairwise_append.2 ⟨h.apart, by simpa using hn, fun a ha b hb => ?_⟩
    obtain ⟨bs, hs⟩ := h.each.mem a ha
    simp only [List.mem_cons, List.not_mem_nil, or_false] at hb
    rcases hb with rfl | rfl
    · exact hs.noShare (Nat.le_refl _) hk
    · exact hs.noShare (Nat.le_refl _) hv
theorem news4 (w : World) (a b c d : Value) (t : TypeId) (fr : Nat × Nat) : ∀ j u, ([a, b, c, d] : List Value)[j]? = some u → (w.alloc (.cells #[a, b, c, d] t fr)).cell? ((⟨w.heap.size, 0, none⟩ : Addr).add j) = some u := by
  intro j u hj
  rw [Addr.add_lit, cell_of_row _ _ _ _ _ _ (heap_alloc_new w _)]
  rw [Nat.zero_add]
  simpa using hj
theorem split_at {α : Type} {l pre suf : List α} {x : α} (h : l = pre ++ x :: suf) : l[pre.length]? = some x := by subst h; simp
set_option maxHeartbeats 1000000 in
theorem copyItems_any {A : Option Addr} {c n : Nat} {l : List It} {w : World} (h : Its w A c l) (hn : n = l.length) :
    Calls Try.prog 64 #[.slice A n c] w fun e w' => ∃ A' c' ps, e = .returned (.slice A' l.length c') ∧ OwnIts w.heap.size w' A' c' l ps ∧ Ext w w' := by
  subst hn
  obtain ⟨i0, hi, hz0, hz1, hz2⟩ := info_parts infoItem
  have hl := h.len
  go_enter Try.func64, Try.ntmps64
  go_wp2
  go_loopw [3, 4] (fun v i wr => ∃ (pre suf : List It) (A' : Option Addr) (c' : Nat) (ps : List (Value × Value)), l = pre ++ suf ∧ i = .int .i64 (pre.length : Nat) ∧ v = .slice A' pre.length c' ∧ OwnIts w.heap.size wr A' c' pre ps ∧ Ext w wr) (fun _ i _ => l.length - (intOf i).toNat)
  case atStart => exact ⟨[], l, none, 0, [], rfl, rfl, rfl, OwnIts.nil _ _, Below.refl _ _⟩
  case round =>
    obtain ⟨pre, suf, A', c', ps, hsp, rfl, rfl, hown, hE⟩ := hrel
    cases suf with
    | nil =>
      rw [List.append_nil] at hsp
      subst hsp
      go_wp2
      go_ret
      exact ⟨A', c', ps, rfl, hown, hE⟩
    | cons x suf =>
      have hx := split_at hsp
      have hlt : pre.length < l.length := by rw [hsp]; simp
      have HS := Lib.hid hsp
      obtain ⟨b, o, rfl, hcx⟩ := h.rd (by omega)
      obtain ⟨kA, kc, vA, vc, x0, x1, x2, x3, xk, xv⟩ := (hcx _ x hx).ext hE
      clear hx hcx hsp
      go_wp2_with fail
      refine (copyItem_any xk xv).mono ?_
      rintro e w1 ⟨kA', kc', vA', vc', rfl, ok, ov, hns, hE1⟩
      have HNS := Lib.hid hns
      clear hns x0 x1 x2 x3
      have hown1 := hown.ext (hE1.trans (ext_alloc _ (.cells #[.slice kA' x.key.length kc', .slice vA' x.val.length vc', .int .i64 x.ch, .int .i64 x.sz] 51)))
      go_wp2_with (at_builtin; refine wpList_append_own _ rfl _ _ 23 rfl w.heap.size 51 i0 _ 4 64 Try.underlying23 hi hz0 hz1 hz2 rfl (by decide) _ _ _ rfl hown1.row ⟨w1.heap.size, 0, none⟩ 1 1 [.slice kA' x.key.length kc', .slice vA' x.val.length vc', .int .i64 x.ch, .int .i64 x.sz] rfl rfl (news4 _ _ _ _ _ _ _) (by simp [Value.oneCell']) (by simp [maxLen]; omega) (by omega) (by have := hE.size; have := hE1.size; simp; omega) ?_; intro v' w2 hown2 hgrow2 _)
      have hE2 : Ext w w2 := (Below.alloc (hE.trans hE1) (hE.trans hE1).size _).grown hgrow2 (by have := (hE.trans hE1).size; simp; omega) (fun j hj => (hown1.row.lt j hj).1)
      obtain ⟨A2, c2, rfl, hown3⟩ := hown.push hE1 hE.size ok ov HNS.out _ rfl hown2 hgrow2
      clear hown2 hgrow2 hown hown1 ok ov xk xv
      go_wp2
      go_roundw
      case rel => exact ⟨pre ++ [x], suf, A2, c2, _, by rw [HS.out]; simp, by simp, by simp, hown3, hE2⟩
      case measure => simp [intOf]; omega
/-- The data of a page beside its items. -/
def DataBy (B : Nat) (l : List It) (bs : List UInt8) (u v : Value) (w : World) : Prop := ∃ A c ps dA dc, u = .slice A l.length c ∧ v = .slice dA bs.length dc ∧ OwnIts B w A c l ps ∧ Own 5 B w dA dc bs ∧ ∀ a ∈ flat ps, NoShare v a
def ItsBy (B : Nat) (l : List It) (v : Value) (w : World) : Prop := ∃ A c ps, v = .slice A l.length c ∧ OwnIts B w A c l ps
theorem ItsBy.exc {D : Nat → Obj → Prop} {B : Nat} (hd : ∀ k o, D k o → k < B) (l : List It) (v : Value) : Lasts (Exc D) (ItsBy B l v) := fun w w' ⟨A, c, ps, h1, h2⟩ hx => ⟨A, c, ps, h1, h2.exc hx (fun k cs h e => by have := hd _ _ e; omega) (fun k cs h e => by have := hd _ _ e; omega)⟩
theorem DataBy.exc {D : Nat → Obj → Prop} {B : Nat} (hd : ∀ k o, D k o → k < B) (l : List It) (bs : List UInt8) (u v : Value) : Lasts (Exc D) (DataBy B l bs u v) := fun w w' ⟨A, c, ps, dA, dc, h1, h2, h3, h4, h5⟩ hx => ⟨A, c, ps, dA, dc, h1, h2, h3.exc hx (fun k cs h e => by have := hd _ _ e; omega) (fun k cs h e => by have := hd _ _ e; omega), ownsRow_exc h4 hx (fun k cs h e => by have := hd _ _ e; omega), h5⟩
theorem noShare_all {B : Nat} {w w1 : World} {ps : List (Value × Value)} {l : List It} (h : OwnEach B w ps l) {A : Option Addr} {c : Nat} {bs : List UInt8} (k : Own 5 w.heap.size w1 A c bs) : ∀ a ∈ flat ps, NoShare (.slice A bs.length c) a := fun a ha => by
  obtain ⟨cs, hs⟩ := h.mem a ha
  exact (hs.noShare (Nat.le_refl _) k).symm
set_option maxHeartbeats 1000000 in
theorem copyPage_any {v : Value} {p : Pg} {w : World} (hv : PgV w v p) :
    Calls Try.prog 28 #[v] w fun e w' => ∃ v', e = .returned v' ∧ PgO w.heap.size w' v' p ∧ Ext w w' := by
  obtain ⟨iA, ic, dA, dc, rfl, hi, hd⟩ := hv.ex
  clear hv
  go_enter Try.func28, Try.ntmps28
  go_wp2
  refine wp_cut (fun W => Ext w W ∧ W.heap[w.heap.size]? = some (.cells #[.int .i64 p.kind, .int .i64 p.level, .slice iA p.items.length ic, .slice dA p.data.length dc, .int .i64 p.next] 26) ∧
    W.heap[w.heap.size + 1]? = some (.cells #[.int .i64 0, .int .i64 0, .slice none 0 0, .slice none 0 0, .int .i64 0] 26)) ⟨(ext_alloc _ _).trans (ext_alloc _ _), heap_alloc2_old _ _ _, heap_alloc2_new _ _ _⟩ ?_
  rintro w1 ⟨hE, hb1, hb2⟩
  have hsz := (Array.getElem?_eq_some_iff.1 hb2).1
  refine wp_region_rg (Exc (fun k _ => k = w.heap.size + 1)) (rel_exc _) (fun w' => w'.heap[w.heap.size + 1]? = some (.cells #[.int .i64 0, .int .i64 0, .slice none 0 0, .slice none 0 0, .int .i64 0] 26)) [0, 1, 2, 3, 4, 5, 6, 7, 8, 9, 10, 11, 12, 13] (fun i => match i with
    | 6 => some fun _ => ItsBy w1.heap.size p.items
    | 9 => some fun V => DataBy w1.heap.size p.items p.data (V 6)
    | _ => none) (fun i => match i with
    | 13 => some fun V _ w' => w'.heap[w.heap.size + 1]? = some (.cells #[.int .i64 p.kind, .int .i64 p.level, V 6, V 9, .int .i64 p.next] 26)
    | _ => none) (fun _ => false) (by kernel_rfl) (by kernel_rfl) (fun _ _ h he => he.blk h) hb2 (fun W N hW hF0 hN => ?_)
  have hEW : Exc (fun k _ => k = w.heap.size + 1) w1 W := Exc.of_ext hW
  have hD : ∀ (k : Nat) (o : Obj), k = w.heap.size + 1 → k < w1.heap.size := fun k _ hk => by omega
  have e0 : ∀ w', Exc (fun k _ => k = w.heap.size + 1) w1 w' → w'.cell? ⟨w.heap.size, 0, none⟩ = some (.int .i64 p.kind) := fun w' h => cell_of_row _ _ _ _ _ _ (h.blk hb1 (by omega))
  have e1 : ∀ w', Exc (fun k _ => k = w.heap.size + 1) w1 w' → w'.cell? ⟨w.heap.size, 1, none⟩ = some (.int .i64 p.level) := fun w' h => cell_of_row _ _ _ _ _ _ (h.blk hb1 (by omega))
  have e2 : ∀ w', Exc (fun k _ => k = w.heap.size + 1) w1 w' → w'.cell? ⟨w.heap.size, 2, none⟩ = some (.slice iA p.items.length ic) := fun w' h => cell_of_row _ _ _ _ _ _ (h.blk hb1 (by omega))
  have e3 : ∀ w', Exc (fun k _ => k = w.heap.size + 1) w1 w' → w'.cell? ⟨w.heap.size, 3, none⟩ = some (.slice dA p.data.length dc) := fun w' h => cell_of_row _ _ _ _ _ _ (h.blk hb1 (by omega))
  have e4 : ∀ w', Exc (fun k _ => k = w.heap.size + 1) w1 w' → w'.cell? ⟨w.heap.size, 4, none⟩ = some (.int .i64 p.next) := fun w' h => cell_of_row _ _ _ _ _ _ (h.blk hb1 (by omega))
  have hX : ∀ w', Exc (fun k _ => k = w.heap.size + 1) W w' → Ext w w' := fun w' h => (Exc.trans hEW h).to_ext hE (fun k _ hk => by omega)
  repeat (first | (apply wpR_one; (case ho => (simp only [List.getElem?_toArray, List.getElem?_cons_succ, List.getElem?_cons_zero]; try exact rfl)); (case hw => rfl); (case hl => rfl); (case hsp => rfl); (case he => rfl); (case hv => (intro w' hw'; (try (have hw2 := Ext.trans hEW hw')); (try (have hw3 := Exc.trans hEW hw')); (try (have hw4 := Exk.trans hEW hw')); (try (have hw5 := Mrk.trans hEW hw')); go_simp; exact rfl)); (case hw0 => (first | exact Below.refl _ _ | exact Exc.of_ext (Below.refl _ _) | exact Exk.of_ext (Below.refl _ _) | exact Mrk.of_ext (Below.refl _ _))); simp only [Act.put, List.setIfInBounds_toArray, List.set_cons_succ, List.set_cons_zero]) | (apply wpR_early; (case ho => (simp only [List.getElem?_toArray, List.getElem?_cons_succ, List.getElem?_cons_zero]; try exact rfl)); (case hw => rfl); (case hl => rfl); (case hsp => rfl); (case he => rfl); (case hv => (intro w' hw'; (try have hw2 := Ext.trans hEW hw'); go_simp; exact rfl)); simp only [Act.put, List.setIfInBounds_toArray, List.set_cons_succ, List.set_cons_zero]) | (apply wpR_pass; (case ho => (simp only [List.getElem?_toArray, List.getElem?_cons_succ, List.getElem?_cons_zero]; try exact rfl)); (case hw => rfl); (case hl => rfl); simp only [Act.put, List.setIfInBounds_toArray, List.set_cons_succ, List.set_cons_zero]))
  refine wpR_new (by ((simp only [List.getElem?_toArray, List.getElem?_cons_succ, List.getElem?_cons_zero]; try exact rfl))) _ rfl rfl rfl (fun V v => ItsBy.exc hD _ _) (fun V V' h => rfl) (fun w' hw' hK => ?_) (fun v hv => ?_)
  · unfold opAt; go_simp; refine upAt_enter ?_
    refine (copyItems_any (hi.ext (hX w' hw')) rfl).mono ?_
    rintro e w2 ⟨A, c, ps, rfl, ho, hE2⟩
    exact ⟨_, rfl, hE2, A, c, ps, rfl, ho.mono (hEW.trans hw').size⟩
  obtain ⟨iA', ic', rfl⟩ : ∃ dA dc, v = .slice dA p.items.length dc := by
    obtain ⟨_, _, _, A, c, _, h, _⟩ := hv
    exact ⟨A, c, h⟩
  clear hv
  simp only [Act.put, List.setIfInBounds_toArray, List.set_cons_succ, List.set_cons_zero]
  repeat (first | (apply wpR_one; (case ho => (simp only [List.getElem?_toArray, List.getElem?_cons_succ, List.getElem?_cons_zero]; try exact rfl)); (case hw => rfl); (case hl => rfl); (case hsp => rfl); (case he => rfl); (case hv => (intro w' hw'; (try (have hw2 := Ext.trans hEW hw')); (try (have hw3 := Exc.trans hEW hw')); (try (have hw4 := Exk.trans hEW hw')); (try (have hw5 := Mrk.trans hEW hw')); go_simp; exact rfl)); (case hw0 => (first | exact Below.refl _ _ | exact Exc.of_ext (Below.refl _ _) | exact Exk.of_ext (Below.refl _ _) | exact Mrk.of_ext (Below.refl _ _))); simp only [Act.put, List.setIfInBounds_toArray, List.set_cons_succ, List.set_cons_zero]) | (apply wpR_early; (case ho => (simp only [List.getElem?_toArray, List.getElem?_cons_succ, List.getElem?_cons_zero]; try exact rfl)); (case hw => rfl); (case hl => rfl); (case hsp => rfl); (case he => rfl); (case hv => (intro w' hw'; (try have hw2 := Ext.trans hEW hw'); go_simp; exact rfl)); simp only [Act.put, List.setIfInBounds_toArray, List.set_cons_succ, List.set_cons_zero]) | (apply wpR_pass; (case ho => (simp only [List.getElem?_toArray, List.getElem?_cons_succ, List.getElem?_cons_zero]; try exact rfl)); (case hw => rfl); (case hl => rfl); simp only [Act.put, List.setIfInBounds_toArray, List.set_cons_succ, List.set_cons_zero]))
  refine wpR_new (by ((simp only [List.getElem?_toArray, List.getElem?_cons_succ, List.getElem?_cons_zero]; try exact rfl))) _ rfl rfl rfl (fun V v => DataBy.exc hD _ _ _ _) (fun V V' h => by simp only [h 6 (by kernel_rfl)]) (fun w' hw' hK => ?_) (fun v hv => ?_)
  · have hK6 := Lib.hid (hK 6 (by kernel_rfl)).2
    unfold opAt; go_simp; refine upAt_enter ?_
    obtain ⟨A, c, ps', hv6, ho6⟩ := hK6.out
    refine (copyBytes_any (hd.ext (hX w' hw'))).mono ?_
    rintro e w2 ⟨A2, c2, rfl, ho, hE2⟩
    exact ⟨_, rfl, hE2, A, c, ps', A2, c2, hv6, rfl, ho6.ext hE2, ho.mono (hEW.trans hw').size, noShare_all ho6.each ho⟩
  obtain ⟨dA', dc', rfl⟩ : ∃ dA dc, v = .slice dA p.data.length dc := by
    obtain ⟨_, _, _, _, _, _, dA, dc, _, h, _⟩ := hv
    exact ⟨dA, dc, h⟩
  clear hv
  simp only [Act.put, List.setIfInBounds_toArray, List.set_cons_succ, List.set_cons_zero]
  repeat (first | (apply wpR_one; (case ho => (simp only [List.getElem?_toArray, List.getElem?_cons_succ, List.getElem?_cons_zero]; try exact rfl)); (case hw => rfl); (case hl => rfl); (case hsp => rfl); (case he => rfl); (case hv => (intro w' hw'; (try (have hw2 := Ext.trans hEW hw')); (try (have hw3 := Exc.trans hEW hw')); (try (have hw4 := Exk.trans hEW hw')); (try (have hw5 := Mrk.trans hEW hw')); go_simp; exact rfl)); (case hw0 => (first | exact Below.refl _ _ | exact Exc.of_ext (Below.refl _ _) | exact Exk.of_ext (Below.refl _ _) | exact Mrk.of_ext (Below.refl _ _))); simp only [Act.put, List.setIfInBounds_toArray, List.set_cons_succ, List.set_cons_zero]) | (apply wpR_early; (case ho => (simp only [List.getElem?_toArray, List.getElem?_cons_succ, List.getElem?_cons_zero]; try exact rfl)); (case hw => rfl); (case hl => rfl); (case hsp => rfl); (case he => rfl); (case hv => (intro w' hw'; (try have hw2 := Ext.trans hEW hw'); go_simp; exact rfl)); simp only [Act.put, List.setIfInBounds_toArray, List.set_cons_succ, List.set_cons_zero]) | (apply wpR_pass; (case ho => (simp only [List.getElem?_toArray, List.getElem?_cons_succ, List.getElem?_cons_zero]; try exact rfl)); (case hw => rfl); (case hl => rfl); simp only [Act.put, List.setIfInBounds_toArray, List.set_cons_succ, List.set_cons_zero]))
  refine wpR_late (by ((simp only [List.getElem?_toArray, List.getElem?_cons_succ, List.getElem?_cons_zero]; try exact rfl))) _ rfl rfl (fun V v => fun _ _ h he => he.blk h) (fun V V' h => by simp only [h 6 (by kernel_rfl), h 9 (by kernel_rfl)]) (fun w' hw' hK hF => ?_) (fun v hv => ?_)
  · refine opAt_list rfl #[] (fun Q hQ => ?_)
    refine wpList_store_box rfl 26 _ _ rfl (w.heap.size + 1) _ rfl rfl 26 _ hF (by kernel_rfl) rfl (by simp [Value.oneCell']) (fun w2 hb hg => ?_)
    exact hQ _ _ ⟨Exc.of_only hg (fun _ _ => rfl), hb⟩
  clear hv
  apply wpR_nil
  apply hN
  intro w' hE' hK hF
  obtain ⟨A, c, ps', A2, c2, h6, h9, ho6, ho9, hns⟩ := (hK 9).2
  have hE2 := hX w' hE'
  have hbk : w'.heap[w.heap.size + 1]? = some (.cells #[.int .i64 p.kind, .int .i64 p.level, .slice iA' p.items.length ic', .slice dA' p.data.length dc', .int .i64 p.next] 26) := hF
  injection h6 with h61 _ h62
  injection h9 with h91 _ h92
  subst h61 h62 h91 h92
  have o6 := ho6.mono hE.size
  have o9 := ho9.mono hE.size
  have HN := Lib.hid hns
  clear hK hN hF hns ho6 ho9 e0 e1 e2 e3 e4
  go_wp2
  exact bodyPost_ret (results_cell_row rfl _ _ _ _ _ _ _ rfl hbk Try.underlying26 rfl (by kernel_rfl)) rfl ⟨_, rfl, ⟨iA', ic', dA', dc', ps', rfl, o6, o9, HN.out⟩, hE2⟩
end Go.Proofs.Ytjjbckdiojleeaa
