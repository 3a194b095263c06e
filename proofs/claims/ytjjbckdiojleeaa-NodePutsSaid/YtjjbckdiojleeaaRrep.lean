/- The contract of coppiceref12.Replace. No condition but that what comes in lies in memory. -/
import Derived.Test.YtjjbckdiojleeaaRjoin
import Derived.Test.YtjjbckdiojleeaaNpart
namespace Go.Proofs.Ytjjbckdiojleeaa
set_option linter.unusedVariables false
open Go.RowKit Go.Proofs
theorem flat_set2 : ∀ (ps : List (Value × Value)) (i : Nat) (p : Value × Value) (v : Value), ps[i]? = some p → flat (ps.set i (p.1, v)) = (flat ps).set (2 * i + 1) v
  | [], i, _, _, h => by simp at h
  | q :: ps, 0, p, v, h => by
    simp only [List.getElem?_cons_zero, Option.some.injEq] at h
    subst h
    simp [flat]
  | q :: ps, i + 1, p, v, h => by
    simp only [List.getElem?_cons_succ] at h
    have := flat_set2 ps i p v h
    simp only [flat] at this ⊢
    rw [List.set_cons_succ, List.flatMap_cons, List.flatMap_cons, this, show 2 * (i + 1) + 1 = 2 * i + 1 + 1 + 1 by omega]
    simp
theorem rowCells_set4 : ∀ (ps : List (Value × Value)) (l : List It) (i : Nat) (p : Value × Value) (y x : It) (k v : Value), ps[i]? = some p → l[i]? = some y →
    ((((rowCells ps l).set (i * 4) k).set (i * 4 + 1) v).set (i * 4 + 2) (.int .i64 x.ch)).set (i * 4 + 3) (.int .i64 x.sz) = rowCells (ps.set i (k, v)) (l.set i x)
  | [], _, i, _, _, _, _, _, h, _ => by simp at h
  | q :: ps, [], i, _, _, _, _, _, _, h => by simp at h
  | q :: ps, z :: l, 0, p, y, x, k, v, h1, h2 => by simp [rowCells, itCells]
  | q :: ps, z :: l, i + 1, p, y, x, k, v, h1, h2 => by
    simp only [List.getElem?_cons_succ] at h1 h2
    have := rowCells_set4 ps l i p y x k v h1 h2
    rw [show (i + 1) * 4 = i * 4 + 1 + 1 + 1 + 1 by omega]
    simp only [rowCells, itCells, List.cons_append, List.nil_append, List.set_cons_succ]
    rw [← this]
theorem flat_set_pair {ps : List (Value × Value)} {i : Nat} {p : Value × Value} (k v : Value) (h : ps[i]? = some p) : flat (ps.set i (k, v)) = ((flat ps).set (2 * i) k).set (2 * i + 1) v := by
  have hi := (List.getElem?_eq_some_iff.1 h).1
  have h1 : (ps.set i (k, p.2))[i]? = some (k, p.2) := by simp [hi]
  rw [← flat_set ps i p k h, ← flat_set2 (ps.set i (k, p.2)) i (k, p.2) v h1]
  simp
theorem OwnEach.set2 {B : Nat} {w : World} {k v : Value} {x : It} (hk : SOwn 5 B x.key k w) (hv : SOwn 5 B x.val v w) : ∀ {ps : List (Value × Value)} {l : List It} {i : Nat}, OwnEach B w ps l → OwnEach B w (ps.set i (k, v)) (l.set i x)
  | [], [], _, _ => trivial
  | p :: ps, y :: l, 0, h => ⟨hk, hv, h.2.2⟩
  | p :: ps, y :: l, i + 1, h => ⟨h.1, h.2.1, OwnEach.set2 hk hv h.2.2⟩
  | [], y :: l, _, h => h.elim
  | p :: ps, [], _, h => h.elim
/-- The world behind a store of a whole item. -/
def setIt (w : World) (g o : Nat) (a b c d : Value) : World := (((w.setCell ⟨g, o, none⟩ a).setCell ⟨g, o + 1, none⟩ b).setCell ⟨g, o + 2, none⟩ c).setCell ⟨g, o + 3, none⟩ d
theorem setIt_exc (w : World) (g o : Nat) (a b c d : Value) : Exc (fun q _ => q = g) w (setIt w g o a b c d) :=
  (((setCell_exc w g o a).trans (setCell_exc _ g _ b)).trans (setCell_exc _ g _ c)).trans (setCell_exc _ g _ d)
theorem OwnIts.setWhole {B g c i : Nat} {w1 : World} {l : List It} {ps : List (Value × Value)} (h : OwnIts B w1 (some ⟨g, 0, none⟩) c l ps) {p : Value × Value} {y x : It} {k v : Value} (hp : ps[i]? = some p) (hy : l[i]? = some y)
    (hk : SOwn 5 B x.key k w1) (hv : SOwn 5 B x.val v w1) (hn1 : ∀ a ∈ flat ps, NoShare a k ∧ NoShare k a) (hn2 : ∀ a ∈ flat ps, NoShare a v ∧ NoShare v a) (hkv : NoShare k v) :
    OwnIts B (setIt w1 g (i * 4) k v (.int .i64 x.ch) (.int .i64 x.sz)) (some ⟨g, 0, none⟩) c (l.set i x) (ps.set i (k, v)) := by
  have hex := setIt_exc w1 g (i * 4) k v (.int .i64 x.ch) (.int .i64 x.sz)
  have hty : ∀ {bs : List UInt8} {a : Value}, SOwn 5 B bs a w1 → SOwn 5 B bs a (setIt w1 g (i * 4) k v (.int .i64 x.ch) (.int .i64 x.sz)) := fun {bs a} ⟨A, c, ha, ho⟩ => by
    subst ha
    refine ⟨A, c, rfl, ho.1, ?_⟩
    rcases ho.2 with h0 | ⟨g', cap, cur, hv, hb, hg, r⟩
    · exact .inl h0
    · refine .inr ⟨g', cap, cur, hv, hb, hex.blk hg (fun e => ?_), r⟩
      injection hv with hA
      subst hA
      exact ownBlock_type h.row ho (by decide) g rfl (by rw [e]; rfl)
  have hE : OwnEach B (setIt w1 g (i * 4) k v (.int .i64 x.ch) (.int .i64 x.sz)) ps l := by
    have : ∀ {ps : List (Value × Value)} {l : List It}, OwnEach B w1 ps l → OwnEach B (setIt w1 g (i * 4) k v (.int .i64 x.ch) (.int .i64 x.sz)) ps l := by
      intro ps
      induction ps with
      | nil => intro l h; cases l with | nil => trivial | cons => exact h.elim
      | cons q ps ih => intro l h; cases l with | nil => exact h.elim | cons y l => exact ⟨hty h.1, hty h.2.1, ih h.2.2⟩
    exact this h.each
  refine ⟨?_, hE.set2 (hty hk) (hty hv), ?_⟩
  · have r1 := (World.ownsRow.stored h.row (i * 4) k).1
    have r2 := (World.ownsRow.stored r1 (i * 4 + 1) v).1
    have r3 := (World.ownsRow.stored r2 (i * 4 + 2) (.int .i64 x.ch)).1
    have r4 := (World.ownsRow.stored r3 (i * 4 + 3) (.int .i64 x.sz)).1
    rw [rowCells_set4 ps l i p y x k v hp hy] at r4
    rwa [List.length_set]
  · rw [flat_set_pair k v hp]
    refine pairwise_set (pairwise_set h.apart hn1) (fun a ha => ?_)
    rcases List.mem_or_eq_of_mem_set ha with ha | rfl
    · exact hn2 a ha
    · exact ⟨hkv, hkv.symm⟩
theorem SOwn.setIt {B B' g c : Nat} {w1 : World} {l : List It} {ps : List (Value × Value)} (h : OwnIts B w1 (some ⟨g, 0, none⟩) c l ps) {bs : List UInt8} {A : Option Addr} {d : Nat} (ho : Own 5 B' w1 A d bs) (o : Nat) (a1 a2 a3 a4 : Value) : Own 5 B' (setIt w1 g o a1 a2 a3 a4) A d bs := by
  refine ⟨ho.1, ?_⟩
  rcases ho.2 with h0 | ⟨g', cap, cur, hv, hb, hg, r⟩
  · exact .inl h0
  · refine .inr ⟨g', cap, cur, hv, hb, (setIt_exc w1 g o a1 a2 a3 a4).blk hg (fun e => ?_), r⟩
    injection hv with hA
    subst hA
    exact ownBlock_type h.row ho (by decide) g rfl (by rw [e]; rfl)
/-- A row of items of which one was put in another's place, and a page's data beside it. -/
def SetIn (B g c n : Nat) (l : List It) (ps : List (Value × Value)) (x : It) (dA : Option Addr) (dc : Nat) (data : List UInt8) (u : Value) (w : World) : Prop := ∃ k v, u = .agg #[k, v, .int .i64 x.ch, .int .i64 x.sz] ∧ OwnIts B w (some ⟨g, 0, none⟩) c (l.set n x) (ps.set n (k, v)) ∧ Own 5 B w dA dc data ∧ NoShare (.slice dA data.length dc) k ∧ NoShare (.slice dA data.length dc) v
theorem SetIn.ext {B g c n : Nat} {l : List It} {ps : List (Value × Value)} {x : It} {dA : Option Addr} {dc : Nat} {data : List UInt8} {u : Value} {w w' : World} (h : SetIn B g c n l ps x dA dc data u w) (he : Ext w w') : SetIn B g c n l ps x dA dc data u w' := by
  obtain ⟨k, v, h1, h2, h3, h4, h5⟩ := h
  exact ⟨k, v, h1, h2.ext he, Own.ext h3 he, h4, h5⟩
theorem set_repl {l : List It} {n : Nat} (h : n < l.length) (x : It) : l.set n x = l.take n ++ [x] ++ l.drop (n + 1) := by
  rw [List.set_eq_take_append_cons_drop, if_pos h]
  simp
set_option maxRecDepth 100000 in
set_option maxHeartbeats 2000000 in
theorem rreplace_any {v u : Value} {p : Pg} {x : It} {a : Int} {w : World} (hv : PgV w v p) (hu : ItV w u x) :
    Calls Try.prog 45 #[v, .int .i64 a, u] w fun e w' => ∃ v', e = .returned (.tuple #[v', .bool (repB p a x).2]) ∧ PgO w.heap.size w' v' (repB p a x).1 ∧ Ext w w' := by
  obtain ⟨iA, ic, dA, dc, rfl, hi, hd⟩ := hv.ex
  obtain ⟨kA, kc, vA, vc, rfl, hk, hvl⟩ := hu.ex
  clear hu hd
  have hil := hi.len
  have hEE := ((ext_alloc w (.cells #[.int .i64 p.kind, .int .i64 p.level, .slice iA p.items.length ic, .slice dA p.data.length dc, .int .i64 p.next] 26)).trans (ext_alloc _ (.cells #[.slice kA x.key.length kc, .slice vA x.val.length vc, .int .i64 x.ch, .int .i64 x.sz] 51))).trans (ext_alloc _ (.cells #[.int .i64 0, .int .i64 0, .slice none 0 0, .slice none 0 0, .int .i64 0] 26))
  by_cases hok : 0 ≤ a ∧ a < p.items.length
  rotate_left
  · have HQ := Lib.hid (show repB p a x = (Pg.zero, false) by unfold repB; rw [if_neg hok])
    go_enter Try.func45, Try.ntmps45
    have hcs : a < 0 ∨ (0 ≤ a ∧ (p.items.length : Int) ≤ a) := by omega
    clear hok hEE
    rcases hcs with h1 | ⟨h1, h2⟩
    all_goals
      go_wp2_with (refine wpList_store_at 26 (.tmp 6) (.tmp 18) (w.heap.size + 1 + 1) _ rfl rfl 26 _ (heap_alloc_at _ _ _ (by simp)) (by kernel_rfl) rfl (by simp [Value.oneCell']) (fun w4 hb hg => ?_))
      refine bodyPost_ret (results_cell_tmp' rfl _ _ _ _ _ _ _ rfl hb Try.underlying26 rfl (by kernel_rfl)) rfl ⟨_, by rw [HQ.out]; rfl, by rw [HQ.out]; exact PgO.zero _ _, ext_only (((ext_alloc _ _).trans (ext_alloc _ _)).trans (ext_alloc _ _)) hg (by omega)⟩
  obtain ⟨h0, h1⟩ := hok
  obtain ⟨n, rfl⟩ : ∃ n : Nat, a = n := ⟨a.toNat, by omega⟩
  have hn : n < p.items.length := by omega
  have HQ := Lib.hid (show repB p n x = ({ p with items := p.items.set n x }, true) by unfold repB; rw [if_pos ⟨h0, h1⟩, set_repl hn]; simp)
  obtain ⟨y, hy⟩ : ∃ y, p.items[n]? = some y := ⟨_, List.getElem?_eq_getElem hn⟩
  have HY := Lib.hid hy
  have K0 := Lib.hid ((ext_alloc _ (.cells #[.int .i64 0, .int .i64 0, .slice none 0 0, .slice none 0 0, .int .i64 0] 26)).blk (heap_alloc2_old w (.cells #[.int .i64 p.kind, .int .i64 p.level, .slice iA p.items.length ic, .slice dA p.data.length dc, .int .i64 p.next] 26) (.cells #[.slice kA x.key.length kc, .slice vA x.val.length vc, .int .i64 x.ch, .int .i64 x.sz] 51)))
  have K1 := Lib.hid ((ext_alloc _ (.cells #[.int .i64 0, .int .i64 0, .slice none 0 0, .slice none 0 0, .int .i64 0] 26)).blk (heap_alloc2_new w (.cells #[.int .i64 p.kind, .int .i64 p.level, .slice iA p.items.length ic, .slice dA p.data.length dc, .int .i64 p.next] 26) (.cells #[.slice kA x.key.length kc, .slice vA x.val.length vc, .int .i64 x.ch, .int .i64 x.sz] 51)))
  have K2 := Lib.hid (heap_alloc_at ((w.alloc (.cells #[.int .i64 p.kind, .int .i64 p.level, .slice iA p.items.length ic, .slice dA p.data.length dc, .int .i64 p.next] 26)).alloc (.cells #[.slice kA x.key.length kc, .slice vA x.val.length vc, .int .i64 x.ch, .int .i64 x.sz] 51)) (.cells #[.int .i64 0, .int .i64 0, .slice none 0 0, .slice none 0 0, .int .i64 0] 26) (w.heap.size + 1 + 1) (by simp))
  clear hy
  have hd1 : decide ((n : Int) < 0) = false := by simp
  have hd2 : decide (p.items.length ≤ n) = false := by simp; omega
  go_enter Try.func45, Try.ntmps45
  go_wp2_with fail
  refine (rwith_any (hv.ext hEE) (hi.ext hEE) rfl).mono ?_
  rintro e w1 ⟨v, rfl, hO, hE1⟩
  have b0 := hE1.blk K0.out
  have b1 := hE1.blk K1.out
  have b2 := hE1.blk K2.out
  have hE := hEE.trans hE1
  obtain ⟨oA, oc, oD, od, ops, rfl, o1, o2, o3⟩ := hO.ex
  have hsz : w.heap.size + 3 ≤ ((w.alloc (.cells #[.int .i64 p.kind, .int .i64 p.level, .slice iA p.items.length ic, .slice dA p.data.length dc, .int .i64 p.next] 26)).alloc (.cells #[.slice kA x.key.length kc, .slice vA x.val.length vc, .int .i64 x.ch, .int .i64 x.sz] 51) |>.alloc (.cells #[.int .i64 0, .int .i64 0, .slice none 0 0, .slice none 0 0, .int .i64 0] 26)).heap.size := by simp
  replace o1 := o1.mono hsz
  replace o2 := o2.mono hsz
  obtain ⟨g, cp, hgA, hgB, _⟩ := World.ownsRow.form o1.row (by show 0 < p.items.length; omega)
  injection hgA with hA1 hA2 hA3
  subst hA1 hA3
  clear hA2 hO K0 K1 K2 hEE hE1
  have hgl := o1.row.lt g rfl
  go_wp2_with fail
  refine wp_cut (fun W => Ext w W ∧ w1.heap.size < W.heap.size ∧ W.heap[w.heap.size]? = some (.cells #[.int .i64 p.kind, .int .i64 p.level, .slice iA p.items.length ic, .slice dA p.data.length dc, .int .i64 p.next] 26) ∧ W.heap[w.heap.size + 1]? = some (.cells #[.slice kA x.key.length kc, .slice vA x.val.length vc, .int .i64 x.ch, .int .i64 x.sz] 51) ∧ W.heap[w.heap.size + 1 + 1]? = some (.cells #[.int .i64 0, .int .i64 0, .slice none 0 0, .slice none 0 0, .int .i64 0] 26) ∧ W.heap[w1.heap.size]? = some (.cells #[.int .i64 p.kind, .int .i64 p.level, .slice (some ⟨g, 0, none⟩) p.items.length oc, .slice oD p.data.length od, .int .i64 p.next] 26) ∧ OwnIts (w.heap.size + 3) W (some ⟨g, 0, none⟩) oc p.items ops ∧ Own 5 (w.heap.size + 3) W oD od p.data) ⟨hE.trans (ext_alloc _ _), by simp, (ext_alloc _ _).blk b0, (ext_alloc _ _).blk b1, (ext_alloc _ _).blk b2, heap_alloc_new _ _, o1.ext (ext_alloc _ _), o2.ext (ext_alloc _ _)⟩ ?_
  clear b0 b1 b2 o1 o2 hE
  rintro w2 ⟨hE, hw2, b0, b1, b2, b8, o1, o2⟩
  have B0 := Lib.hid b0
  have B1 := Lib.hid b1
  have B2 := Lib.hid b2
  have B8 := Lib.hid b8
  have O1 := Lib.hid o1
  have O2 := Lib.hid o2
  have O3 := Lib.hid o3
  obtain ⟨pr, hpr, _, _⟩ := o1.each.at_ HY.out
  have HPR := Lib.hid hpr
  obtain ⟨c8, hc8⟩ : ∃ c, w1.heap.size = c := ⟨_, rfl⟩
  have hw1 := (Array.getElem?_eq_some_iff.1 b2).1
  have h8 : w.heap.size + 3 ≤ w1.heap.size := by omega
  clear b0 b1 b2 b8 o1 o2 o3 hpr
  rw [hc8] at B8 hw2 hgl h8 ⊢
  refine wp_region_rg (Exc (fun k _ => k = g)) (rel_exc _) (fun w' => OwnIts (w.heap.size + 3) w' (some ⟨g, 0, none⟩) oc p.items ops ∧ Own 5 (w.heap.size + 3) w' oD od p.data) [0, 1, 2, 3, 4, 5, 6] (fun i => match i with
    | 4 => some fun _ => FreshIt w2.heap.size x
    | _ => none) (fun i => match i with
    | 6 => some fun V _ => SetIn (w.heap.size + 3) g oc n p.items ops x oD od p.data (V 4)
    | _ => none) (fun _ => false) (by kernel_rfl) (by kernel_rfl) (fun _ _ h he => ⟨h.1.ext he, Own.ext h.2 he⟩) ⟨O1.out.ext (ext_drew _), Own.ext O2.out (ext_drew _)⟩ (fun W N hW hF0 hN => ?_)
  have hEW : Exc (fun k _ => k = g) w2 W := Exc.of_ext hW
  have hD : ∀ (k : Nat) (o : Obj), k = g → k < w2.heap.size := fun k _ hk => by omega
  have hX : ∀ w', Exc (fun k _ => k = g) W w' → Ext w w' := fun w' h => (Exc.trans hEW h).to_ext hE (fun k _ hk => by omega)
  have e0 : ∀ w', Exc (fun k _ => k = g) w2 w' → w'.cell? ⟨c8, 0, none⟩ = some (.int .i64 p.kind) := fun w' h => cell_of_row _ _ _ _ _ _ (h.blk B8.out (by omega))
  have e1 : ∀ w', Exc (fun k _ => k = g) w2 w' → w'.cell? ⟨c8, 1, none⟩ = some (.int .i64 p.level) := fun w' h => cell_of_row _ _ _ _ _ _ (h.blk B8.out (by omega))
  have e2 : ∀ w', Exc (fun k _ => k = g) w2 w' → w'.cell? ⟨c8, 2, none⟩ = some (.slice (some ⟨g, 0, none⟩) p.items.length oc) := fun w' h => cell_of_row _ _ _ _ _ _ (h.blk B8.out (by omega))
  have e3 : ∀ w', Exc (fun k _ => k = g) w2 w' → w'.cell? ⟨c8, 3, none⟩ = some (.slice oD p.data.length od) := fun w' h => cell_of_row _ _ _ _ _ _ (h.blk B8.out (by omega))
  have e4 : ∀ w', Exc (fun k _ => k = g) w2 w' → w'.cell? ⟨c8, 4, none⟩ = some (.int .i64 p.next) := fun w' h => cell_of_row _ _ _ _ _ _ (h.blk B8.out (by omega))
  have q0 : ∀ w', Exc (fun k _ => k = g) w2 w' → w'.cell? ⟨w.heap.size + 1, 0, none⟩ = some (.slice kA x.key.length kc) := fun w' h => cell_of_row _ _ _ _ _ _ (h.blk B1.out (by omega))
  have q1 : ∀ w', Exc (fun k _ => k = g) w2 w' → w'.cell? ⟨w.heap.size + 1, 1, none⟩ = some (.slice vA x.val.length vc) := fun w' h => cell_of_row _ _ _ _ _ _ (h.blk B1.out (by omega))
  have q2 : ∀ w', Exc (fun k _ => k = g) w2 w' → w'.cell? ⟨w.heap.size + 1, 2, none⟩ = some (.int .i64 x.ch) := fun w' h => cell_of_row _ _ _ _ _ _ (h.blk B1.out (by omega))
  have q3 : ∀ w', Exc (fun k _ => k = g) w2 w' → w'.cell? ⟨w.heap.size + 1, 3, none⟩ = some (.int .i64 x.sz) := fun w' h => cell_of_row _ _ _ _ _ _ (h.blk B1.out (by omega))
  repeat (first | (apply wpR_one; (case ho => (simp only [List.getElem?_toArray, List.getElem?_cons_succ, List.getElem?_cons_zero]; try exact rfl)); (case hw => rfl); (case hl => rfl); (case hsp => rfl); (case he => rfl); (case hv => (intro w' hw'; (try (have hw2 := Ext.trans hEW hw')); (try (have hw3 := Exc.trans hEW hw')); (try (have hw4 := Exk.trans hEW hw')); (try (have hw5 := Mrk.trans hEW hw')); go_simp; exact rfl)); (case hw0 => (first | exact Below.refl _ _ | exact Exc.of_ext (Below.refl _ _) | exact Exk.of_ext (Below.refl _ _) | exact Mrk.of_ext (Below.refl _ _))); simp only [Act.put, List.setIfInBounds_toArray, List.set_cons_succ, List.set_cons_zero]) | (apply wpR_early; (case ho => (simp only [List.getElem?_toArray, List.getElem?_cons_succ, List.getElem?_cons_zero]; try exact rfl)); (case hw => rfl); (case hl => rfl); (case hsp => rfl); (case he => rfl); (case hv => (intro w' hw'; (try have hw2 := Ext.trans hEW hw'); go_simp; exact rfl)); simp only [Act.put, List.setIfInBounds_toArray, List.set_cons_succ, List.set_cons_zero]) | (apply wpR_pass; (case ho => (simp only [List.getElem?_toArray, List.getElem?_cons_succ, List.getElem?_cons_zero]; try exact rfl)); (case hw => rfl); (case hl => rfl); simp only [Act.put, List.setIfInBounds_toArray, List.set_cons_succ, List.set_cons_zero]))
  refine wpR_new (by ((simp only [List.getElem?_toArray, List.getElem?_cons_succ, List.getElem?_cons_zero]; try exact rfl))) _ rfl rfl rfl (fun V v => FreshIt.lasts hD _ _) (fun V V' h => rfl) (fun w' hw' hK => ?_) (fun v hv => ?_)
  · have HX := Lib.hid (hX w' hw')
    clear hK
    unfold opAt; go_simp; refine upAt_enter ?_
    refine (copyItem_any (hk.ext HX.out) (hvl.ext HX.out)).mono ?_
    rintro e w3 ⟨kA', kc', vA', vc', rfl, ok, ov, hns, hE3⟩
    have hs3 := (hEW.trans hw').size
    exact ⟨_, rfl, hE3, kA', kc', vA', vc', rfl, ok.mono hs3, ov.mono hs3, hns⟩
  obtain ⟨kA', kc', vA', vc', rfl⟩ : ∃ kA' kc' vA' vc', v = .agg #[.slice kA' x.key.length kc', .slice vA' x.val.length vc', .int .i64 x.ch, .int .i64 x.sz] := by
    obtain ⟨_, _, _, a, b, c, d, h, _⟩ := hv
    exact ⟨a, b, c, d, h⟩
  clear hv
  simp only [Act.put, List.setIfInBounds_toArray, List.set_cons_succ, List.set_cons_zero]
  repeat (first | (apply wpR_one; (case ho => (simp only [List.getElem?_toArray, List.getElem?_cons_succ, List.getElem?_cons_zero]; try exact rfl)); (case hw => rfl); (case hl => rfl); (case hsp => rfl); (case he => rfl); (case hv => (intro w' hw'; (try (have hw2 := Ext.trans hEW hw')); (try (have hw3 := Exc.trans hEW hw')); (try (have hw4 := Exk.trans hEW hw')); (try (have hw5 := Mrk.trans hEW hw')); go_simp; exact rfl)); (case hw0 => (first | exact Below.refl _ _ | exact Exc.of_ext (Below.refl _ _) | exact Exk.of_ext (Below.refl _ _) | exact Mrk.of_ext (Below.refl _ _))); simp only [Act.put, List.setIfInBounds_toArray, List.set_cons_succ, List.set_cons_zero]) | (apply wpR_early; (case ho => (simp only [List.getElem?_toArray, List.getElem?_cons_succ, List.getElem?_cons_zero]; try exact rfl)); (case hw => rfl); (case hl => rfl); (case hsp => rfl); (case he => rfl); (case hv => (intro w' hw'; (try have hw2 := Ext.trans hEW hw'); go_simp; exact rfl)); simp only [Act.put, List.setIfInBounds_toArray, List.set_cons_succ, List.set_cons_zero]) | (apply wpR_pass; (case ho => (simp only [List.getElem?_toArray, List.getElem?_cons_succ, List.getElem?_cons_zero]; try exact rfl)); (case hw => rfl); (case hl => rfl); simp only [Act.put, List.setIfInBounds_toArray, List.set_cons_succ, List.set_cons_zero]))
  refine wpR_late (by ((simp only [List.getElem?_toArray, List.getElem?_cons_succ, List.getElem?_cons_zero]; try exact rfl))) _ rfl rfl (fun V v w' w2 h he => h.ext he) (fun V V' h => by simp only [h 4 (by kernel_rfl)]) (fun w' hw' hK hF => ?_) (fun v hv => ?_)
  · obtain ⟨hF2, hFd⟩ : OwnIts (w.heap.size + 3) w' (some ⟨g, 0, none⟩) oc p.items ops ∧ Own 5 (w.heap.size + 3) w' oD od p.data := hF
    have k4 : FreshIt w2.heap.size x (.agg #[.slice kA' x.key.length kc', .slice vA' x.val.length vc', .int .i64 x.ch, .int .i64 x.sz]) w' := (hK 4 (by kernel_rfl)).2
    obtain ⟨kA2, kc2, vA2, vc2, e4, ok, ov, hns⟩ := k4
    simp only [Value.agg.injEq, Array.mk.injEq, List.cons.injEq, Value.slice.injEq, true_and, and_true] at e4
    obtain ⟨⟨rfl, rfl⟩, rfl, rfl⟩ := e4
    have hrow : ∀ j, j < 4 → w'.cell? ⟨g, n * 4 + j, none⟩ = (itCells pr y)[j]? := fun j hj => by
      rw [World.ownsRow.cellAt hF2.row (n * 4 + j) (by omega)]
      exact rowCells_at ops _ n j pr y HPR.out HY.out hj
    have c0 := hrow 0 (by omega)
    have c1 := hrow 1 (by omega)
    have c2 := hrow 2 (by omega)
    have c3 := hrow 3 (by omega)
    simp only [itCells, List.getElem?_cons_zero, List.getElem?_cons_succ, Nat.add_zero] at c0 c1 c2 c3
    have f0 := World.ownsRow.frozenAt hF2.row (n * 4)
    have f1 := World.ownsRow.frozenAt hF2.row (n * 4 + 1)
    have f2 := World.ownsRow.frozenAt hF2.row (n * 4 + 2)
    have f3 := World.ownsRow.frozenAt hF2.row (n * 4 + 3)
    have hall : ∀ a ∈ flat ops, ∀ (bs : List UInt8) (A : Option Addr) (c : Nat), Own 5 w2.heap.size w' A c bs → NoShare a (.slice A bs.length c) := fun a ha bs A c ho => by
      obtain ⟨bs', hs'⟩ := O1.out.each.mem a ha
      exact hs'.noShare (Nat.le_refl _) ho
    have hr := hF2.setWhole HPR.out HY.out ⟨kA', kc', rfl, ok.mono (by omega)⟩ ⟨vA', vc', rfl, ov.mono (by omega)⟩ (fun a ha => ⟨hall a ha _ _ _ ok, (hall a ha _ _ _ ok).symm⟩) (fun a ha => ⟨hall a ha _ _ _ ov, (hall a ha _ _ _ ov).symm⟩) hns
    have hxx := setIt_exc w' g (n * 4) (.slice kA' x.key.length kc') (.slice vA' x.val.length vc') (.int .i64 x.ch) (.int .i64 x.sz)
    have hdn : ∀ (bs : List UInt8) (A : Option Addr) (c : Nat), Own 5 w2.heap.size w' A c bs → NoShare (.slice oD p.data.length od) (.slice A bs.length c) := fun bs A c ho =>
      SOwn.noShare (B := w2.heap.size) ⟨oD, od, rfl, O2.out⟩ (Nat.le_refl _) ho
    have HR := Lib.hid (show SetIn (w.heap.size + 3) g oc n p.items ops x oD od p.data (.agg #[.slice kA' x.key.length kc', .slice vA' x.val.length vc', .int .i64 x.ch, .int .i64 x.sz]) _ from ⟨_, _, rfl, hr, SOwn.setIt hF2 hFd _ _ _ _ _, hdn _ _ _ ok, hdn _ _ _ ov⟩)
    have HXX := Lib.hid hxx
    unfold setIt at HR HXX
    clear hF2 hFd hK hr hxx ok ov hall hrow hdn e0 e1 e2 e3 e4 q0 q1 q2 q3
    unfold opAt
    go_simp
    exact upAt_skip ⟨HXX.out, HR.out⟩
  clear hv
  apply wpR_nil
  apply hN
  intro w5 hE' hK hF
  have hF5 : SetIn (w.heap.size + 3) g oc n p.items ops x oD od p.data (.agg #[.slice kA' x.key.length kc', .slice vA' x.val.length vc', .int .i64 x.ch, .int .i64 x.sz]) w5 := hF
  obtain ⟨kk, vv, _, hO5, hOd, hn1, hn2⟩ := hF5
  have hE5 := hX w5 hE'
  have hx5 := hEW.trans hE'
  have HO := Lib.hid (show PgO (w.heap.size + 3) w5 (.agg #[.int .i64 p.kind, .int .i64 p.level, .slice (some ⟨g, 0, none⟩) p.items.length oc, .slice oD p.data.length od, .int .i64 p.next]) { p with items := p.items.set n x } from ⟨some ⟨g, 0, none⟩, oc, oD, od, _, by simp, hO5, hOd, fun a ha => by
    rw [flat_set_pair kk vv HPR.out] at ha
    rcases List.mem_or_eq_of_mem_set ha with ha | rfl
    · rcases List.mem_or_eq_of_mem_set ha with ha | rfl
      · exact O3.out a ha
      · exact hn1
    · exact hn2⟩)
  have hz5 := hx5.blk B2.out (by omega)
  have H8 := Lib.hid (hx5.blk B8.out (by omega))
  clear hK hN hF hO5 hOd hn1 hn2 e0 e1 e2 e3 e4 q0 q1 q2 q3 hX hD hE' hEW hW hF0 hx5
  have e0 := cell_of_row w5 c8 0 _ _ _ H8.out
  have e1 := cell_of_row w5 c8 1 _ _ _ H8.out
  have e2 := cell_of_row w5 c8 2 _ _ _ H8.out
  have e3 := cell_of_row w5 c8 3 _ _ _ H8.out
  have e4 := cell_of_row w5 c8 4 _ _ _ H8.out
  simp only [List.getElem?_toArray, List.getElem?_cons_zero, List.getElem?_cons_succ] at e0 e1 e2 e3 e4
  go_wp2_with (refine wpList_store_at 26 (.tmp 6) (.tmp 29) (w.heap.size + 1 + 1) _ rfl rfl 26 _ hz5 (by kernel_rfl) rfl (by simp [Value.oneCell']) (fun w6 hb hg => ?_))
  have HO6 := (Exc.of_only (D := fun k _ => k = w.heap.size + 1 + 1) hg (fun _ _ => rfl)).pgo4 HO.out (fun k _ hk => by omega)
  refine bodyPost_ret (results_cell_tmp' rfl _ _ _ _ _ _ _ rfl hb Try.underlying26 rfl (by kernel_rfl)) rfl ⟨_, by rw [HQ.out]; rfl, ?_, ext_only hE5 hg (by omega)⟩
  rw [HQ.out]
  exact HO6.mono (by omega)
end Go.Proofs.Ytjjbckdiojleeaa
