/- Contracts of node.meant, neighbours, row, Join. No condition but that what comes in lies in memory. -/
import Derived.Test.YtjjbckdiojleeaaNput
namespace Go.Proofs.Ytjjbckdiojleeaa
set_option linter.unusedVariables false
open Go.RowKit Go.Proofs
def meantB (k : Int) : Bool := k == 1 || k == 2
theorem meant_any {v : Value} {p : Pg} {w : World} (hv : PgV w v p) :
    Calls Try.prog 55 #[v] w fun e w' => e = .returned (.bool (meantB p.kind)) ∧ Ext w w' := by
  obtain ⟨iA, ic, dA, dc, rfl, hi, hd⟩ := hv.ex
  clear hv hi hd
  have HQ := Lib.hid (show meantB p.kind = (p.kind == 1 || p.kind == 2) from rfl)
  by_cases h1 : p.kind = 1
  · have c1 : (p.kind == 1) = true := by simpa using h1
    have H1 := Lib.hid c1
    clear h1
    go_enter Try.func55, Try.ntmps55
    go_wp2
    go_ret
    exact ⟨ret_bool (by rw [HQ.out, H1.out]; rfl), ext_alloc _ _⟩
  · have c1 : (p.kind == 1) = false := by simpa using h1
    have H1 := Lib.hid c1
    clear h1
    go_enter Try.func55, Try.ntmps55
    go_wp2
    go_ret
    exact ⟨ret_bool (by rw [HQ.out, H1.out]; rfl), ext_alloc _ _⟩
def neighB (l r : Pg) : Bool := meantB l.kind && (l.kind == r.kind && l.level == r.level)
set_option maxHeartbeats 1000000 in
theorem neighbours_any {v u : Value} {p q : Pg} {w : World} (hv : PgV w v p) (hu : PgV w u q) :
    Calls Try.prog 60 #[v, u] w fun e w' => e = .returned (.bool (neighB p q)) ∧ Ext w w' := by
  obtain ⟨iA, ic, dA, dc, rfl, hi, hd⟩ := hv.ex
  obtain ⟨jA, jc, cA, cc, rfl, hj, hcd⟩ := hu.ex
  have hvw := hv.ext ((ext_alloc w (.cells #[.int .i64 p.kind, .int .i64 p.level, .slice iA p.items.length ic, .slice dA p.data.length dc, .int .i64 p.next] 26)).trans (ext_alloc _ (.cells #[.int .i64 q.kind, .int .i64 q.level, .slice jA q.items.length jc, .slice cA q.data.length cc, .int .i64 q.next] 26)))
  clear hi hd hj hcd hv hu
  have HQ := Lib.hid (show neighB p q = (meantB p.kind && (p.kind == q.kind && p.level == q.level)) from rfl)
  obtain ⟨z, hz⟩ : ∃ z, meantB p.kind = z := ⟨_, rfl⟩
  obtain ⟨y, hy⟩ : ∃ y, (p.kind == q.kind) = y := ⟨_, rfl⟩
  have HZ := Lib.hid hz
  have HY := Lib.hid hy
  clear hz
  cases z
  · clear hy
    go_enter Try.func60, Try.ntmps60
    go_wp2_with fail
    refine (meant_any hvw).mono ?_
    rintro e w1 ⟨rfl, hE⟩
    rw [HZ.out]
    go_wp2
    go_ret
    exact ⟨ret_bool (by rw [HQ.out, HZ.out]; rfl), ((ext_alloc _ _).trans (ext_alloc _ _)).trans hE⟩
  · cases y
    all_goals
      go_enter Try.func60, Try.ntmps60
      go_wp2_with fail
      refine (meant_any hvw).mono ?_
      rintro e w1 ⟨rfl, hE⟩
      rw [HZ.out]
      have b1 := hE.blk (heap_alloc2_old w (.cells #[.int .i64 p.kind, .int .i64 p.level, .slice iA p.items.length ic, .slice dA p.data.length dc, .int .i64 p.next] 26) (.cells #[.int .i64 q.kind, .int .i64 q.level, .slice jA q.items.length jc, .slice cA q.data.length cc, .int .i64 q.next] 26))
      have b2 := hE.blk (heap_alloc2_new w (.cells #[.int .i64 p.kind, .int .i64 p.level, .slice iA p.items.length ic, .slice dA p.data.length dc, .int .i64 p.next] 26) (.cells #[.int .i64 q.kind, .int .i64 q.level, .slice jA q.items.length jc, .slice cA q.data.length cc, .int .i64 q.next] 26))
      have hE1 := ((ext_alloc w (.cells #[.int .i64 p.kind, .int .i64 p.level, .slice iA p.items.length ic, .slice dA p.data.length dc, .int .i64 p.next] 26)).trans (ext_alloc _ (.cells #[.int .i64 q.kind, .int .i64 q.level, .slice jA q.items.length jc, .slice cA q.data.length cc, .int .i64 q.next] 26))).trans hE
      have p0 := cell_of_row w1 w.heap.size 0 _ _ _ b1
      have p1 := cell_of_row w1 w.heap.size 1 _ _ _ b1
      have q0 := cell_of_row w1 (w.heap.size + 1) 0 _ _ _ b2
      have q1 := cell_of_row w1 (w.heap.size + 1) 1 _ _ _ b2
      simp at p0 p1 q0 q1
      clear hE b1 b2
      go_wp2
      go_ret
      exact ⟨ret_bool (by rw [HQ.out, HZ.out, HY.out]; rfl), hE1⟩
/-! ### One key of a row of items set -/
theorem pairwise_set {α : Type} {R : α → α → Prop} : ∀ {l : List α} {k : Nat} {v : α}, l.Pairwise R → (∀ a ∈ l, R a v ∧ R v a) → (l.set k v).Pairwise R
  | [], _, _, _, _ => List.Pairwise.nil
  | a :: l, 0, v, h, hv => by
    rw [List.set_cons_zero]
    exact List.pairwise_cons.2 ⟨fun b hb => (hv b (by simp [hb])).2, (List.pairwise_cons.1 h).2⟩
  | a :: l, k + 1, v, h, hv => by
    rw [List.set_cons_succ]
    refine List.pairwise_cons.2 ⟨fun b hb => ?_, pairwise_set (List.pairwise_cons.1 h).2 (fun c hc => hv c (by simp [hc]))⟩
    rcases List.mem_or_eq_of_mem_set hb with hb | rfl
    · exact (List.pairwise_cons.1 h).1 b hb
    · exact (hv a (by simp)).1
theorem flat_set : ∀ (ps : List (Value × Value)) (i : Nat) (p : Value × Value) (v : Value), ps[i]? = some p → flat (ps.set i (v, p.2)) = (flat ps).set (2 * i) v
  | [], i, _, _, h => by simp at h
  | q :: ps, 0, p, v, h => by
    simp only [List.getElem?_cons_zero, Option.some.injEq] at h
    subst h
    simp [flat]
  | q :: ps, i + 1, p, v, h => by
    simp only [List.getElem?_cons_succ] at h
    have := flat_set ps i p v h
    simp only [flat] at this ⊢
    rw [List.set_cons_succ, List.flatMap_cons, List.flatMap_cons, this, show 2 * (i + 1) = 2 * i + 1 + 1 by omega]
    simp
theorem noShare_nil (a : Value) : NoShare a (.slice none 0 0) ∧ NoShare (.slice none 0 0) a := ⟨(fun _ _ h => by cases h), (fun _ h => by cases h)⟩
theorem SOwn.nil (e : TypeId) (B : Nat) (w : World) : SOwn e B [] (.slice none 0 0) w := ⟨none, 0, rfl, rfl, .inl ⟨rfl, rfl⟩⟩
/-- An item with another key. -/
def It.keyed (x : It) (k : List UInt8) : It := { x with key := k }
theorem OwnIts.setKey {B g c i : Nat} {w1 : World} {l : List It} {ps : List (Value × Value)} (h : OwnIts B w1 (some ⟨g, 0, none⟩) c l ps) {p : Value × Value} {x : It} {k : List UInt8} {v : Value} (hp : ps[i]? = some p) (hx : l[i]? = some x)
    (hk : SOwn 5 B k v w1) (hns : ∀ a ∈ flat ps, NoShare a v ∧ NoShare v a) : OwnIts B (w1.setCell ⟨g, i * 4, none⟩ v) (some ⟨g, 0, none⟩) c (l.set i (x.keyed k)) (ps.set i (v, p.2)) := by
  have hl := h.each.length
  have hex := setCell_exc w1 g (i * 4) v
  have hty : ∀ {bs : List UInt8} {a : Value}, SOwn 5 B bs a w1 → SOwn 5 B bs a (w1.setCell ⟨g, i * 4, none⟩ v) := fun {bs a} ⟨A, c, ha, ho⟩ => by
    subst ha
    refine ⟨A, c, rfl, ho.1, ?_⟩
    rcases ho.2 with h0 | ⟨g', cap, cur, hv, hb, hg, r⟩
    · exact .inl h0
    · refine .inr ⟨g', cap, cur, hv, hb, hex.blk hg (fun e => ?_), r⟩
      injection hv with hA
      subst hA
      exact ownBlock_type h.row ho (by decide) g rfl (by rw [e]; rfl)
  obtain ⟨p', hp', hp1, hp2⟩ := h.each.at_ hx
  rw [hp] at hp'
  injection hp' with hp'
  subst hp'
  have hE : OwnEach B (w1.setCell ⟨g, i * 4, none⟩ v) ps l := by
    have : ∀ {ps : List (Value × Value)} {l : List It}, OwnEach B w1 ps l → OwnEach B (w1.setCell ⟨g, i * 4, none⟩ v) ps l := by
      intro ps
      induction ps with
      | nil => intro l h; cases l with | nil => trivial | cons => exact h.elim
      | cons q ps ih => intro l h; cases l with | nil => exact h.elim | cons y l => exact ⟨hty h.1, hty h.2.1, ih h.2.2⟩
    exact this h.each
  refine ⟨?_, hE.set_ (hty hk) (hty hp2), ?_⟩
  · have := (World.ownsRow.stored h.row (i * 4) v).1
    rw [rowCells_set ps l i p x (x.keyed k) v hp hx rfl rfl] at this
    rwa [List.length_set]
  · rw [flat_set ps i p v hp]
    exact pairwise_set h.apart hns
/-- The items of two neighbours as they stand in one page. -/
def rowB (l r : Pg) (sep : List UInt8) : List It := if l.kind = 2 then (l.items ++ r.items).modify l.items.length (·.keyed sep) else l.items ++ r.items
theorem modify_at {α : Type} {l : List α} {i : Nat} {x : α} (f : α → α) (h : l[i]? = some x) : l.modify i f = l.set i (f x) := by
  apply List.ext_getElem?
  intro j
  rw [List.getElem?_modify, List.getElem?_set]
  by_cases hj : i = j
  · subst hj
    obtain ⟨hi, he⟩ := List.getElem?_eq_some_iff.1 h
    simp [hi, he]
  · simp [hj]
theorem rowB_length (l r : Pg) (sep : List UInt8) : (rowB l r sep).length = l.items.length + r.items.length := by
  unfold rowB
  split <;> simp
theorem run_field_items (w : World) (a b c d e : Value) : (Instr.field 26 (.agg #[a, b, c, d, e]) 2).run Try.prog w = .ok c w := by kernel_rfl
set_option maxHeartbeats 1000000 in
theorem row_any {v u : Value} {p q : Pg} {A : Option Addr} {c n : Nat} {sep : List UInt8} {w : World} (hv : PgV w v p) (hu : PgV w u q) (hs : Sl w A c sep) (hn : n = sep.length) (hq : 1 ≤ q.items.length) (ht : p.items.length + q.items.length ≤ 2199023255552) :
    Calls Try.prog 62 #[v, u, .slice A n c] w fun e w' => ∃ A' c' ps, e = .returned (.slice A' (p.items.length + q.items.length) c') ∧ OwnIts w.heap.size w' A' c' (rowB p q sep) ps ∧ Ext w w' := by
  subst hn
  obtain ⟨iA, ic, dA, dc, rfl, hi, hd⟩ := hv.ex
  obtain ⟨jA, jc, cA, cc, rfl, hj, hcd⟩ := hu.ex
  have hil := hi.len
  have hjl := hj.len
  have hEE := ((((ext_alloc w (.cells #[.int .i64 p.kind, .int .i64 p.level, .slice iA p.items.length ic, .slice dA p.data.length dc, .int .i64 p.next] 26)).trans (ext_alloc _ (.cells #[.int .i64 q.kind, .int .i64 q.level, .slice jA q.items.length jc, .slice cA q.data.length cc, .int .i64 q.next] 26))).trans (ext_alloc _ (.cells #[.slice iA p.items.length ic, .slice jA q.items.length jc] 23))))
  go_enter Try.func62, Try.ntmps62
  go_wp2_with fail
  refine (with_any (qs := [p.items, q.items]) (hv.ext hEE) ?_ rfl (Nat.le_refl _) (by simp) (by simp [joined]; omega)).mono ?_
  · intro _
    refine ⟨_, _, rfl, fun j x hx => ?_⟩
    rw [cell_of_row _ _ _ _ _ _ (heap_alloc_at _ _ _ (by simp))]
    rcases j with _ | _ | j
    · simp only [List.getElem?_cons_zero, Option.some.injEq] at hx
      subst hx
      exact ⟨_, _, _, rfl, rfl, hi.ext hEE⟩
    · simp only [List.getElem?_cons_zero, List.getElem?_cons_succ, Option.some.injEq] at hx
      subst hx
      exact ⟨_, _, _, rfl, rfl, hj.ext hEE⟩
    · simp at hx
  rintro e w1 ⟨v', rfl, hO, hE1⟩
  obtain ⟨iA', ic', dA', dc', ps, rfl, ho1, ho2, ho3⟩ := hO.ex
  have b1 := hE1.blk ((ext_alloc _ (.cells #[.slice iA p.items.length ic, .slice jA q.items.length jc] 23)).blk (heap_alloc2_old w (.cells #[.int .i64 p.kind, .int .i64 p.level, .slice iA p.items.length ic, .slice dA p.data.length dc, .int .i64 p.next] 26) (.cells #[.int .i64 q.kind, .int .i64 q.level, .slice jA q.items.length jc, .slice cA q.data.length cc, .int .i64 q.next] 26)))
  have hjn : joined [p.items, q.items] = p.items ++ q.items := by simp [joined]
  have hE2 := hEE.trans hE1
  have ho4 : OwnIts (w.heap.size + 3) w1 iA' ic' (p.items ++ q.items) ps := by
    rw [← hjn]
    exact ho1.mono (by simp)
  have hlen : (joined [p.items, q.items]).length = p.items.length + q.items.length := by rw [hjn]; simp
  simp only [hlen]
  have HO := Lib.hid ho4
  clear hO ho1 ho2 ho3 hjn hlen ho4 hE1
  have p0 := cell_of_row w1 w.heap.size 0 _ _ _ b1
  have p2 := cell_of_row w1 w.heap.size 2 _ _ _ b1
  simp at p0 p2
  have hfld := run_field_items
  by_cases hk2 : p.kind = 2
  rotate_left
  · have c1 : (p.kind == 2) = false := by simpa using hk2
    have HR := Lib.hid (show rowB p q sep = p.items ++ q.items by unfold rowB; rw [if_neg hk2])
    clear hk2
    go_wp2
    go_ret
    exact ⟨iA', ic', ps, rfl, by rw [HR.out]; exact HO.out.mono (by omega), hE2⟩
  have c1 : (p.kind == 2) = true := by simpa using hk2
  obtain ⟨x, hx⟩ : ∃ x, (p.items ++ q.items)[p.items.length]? = some x := ⟨_, List.getElem?_eq_getElem (by simp; omega)⟩
  have HR := Lib.hid (show rowB p q sep = (p.items ++ q.items).set p.items.length (x.keyed sep) by unfold rowB; rw [if_pos hk2, modify_at _ hx])
  obtain ⟨L, hL⟩ : ∃ L, L = (p.items ++ q.items).set p.items.length (x.keyed sep) := ⟨_, rfl⟩
  have HL := Lib.hid hL
  clear hL
  obtain ⟨pr, hpr, _, _⟩ := HO.out.each.at_ hx
  have HX := Lib.hid hx
  have HPR := Lib.hid hpr
  obtain ⟨g, cp, hAg, _, _⟩ := World.ownsRow.form HO.out.row (by simp; omega)
  injection hAg with hA1 hA2 hA3
  subst hA1
  subst hA3
  clear hA2
  have hgw := (HO.out.row.lt g rfl)
  have HB1 := Lib.hid b1
  clear hk2 hx hpr p0 p2 b1
  have p0 := cell_of_row w1 w.heap.size 0 _ _ _ HB1.out
  simp at p0
  go_wp2
  refine wp_region_rg (Exc fun k _ => k = g) (rel_exc _) (fun w' => OwnIts (w.heap.size + 3) w' (some ⟨g, 0, none⟩) ic' (p.items ++ q.items) ps) [0, 1, 2, 3, 4, 5, 6, 7, 8] (fun i => match i with
    | 5 => some fun _ => SOwn 5 w1.heap.size sep
    | _ => none) (fun i => match i with
    | 8 => some fun V _ w' => OwnIts (w.heap.size + 3) w' (some ⟨g, 0, none⟩) ic' L (ps.set p.items.length (V 5, pr.2))
    | _ => none) (fun _ => false) (by kernel_rfl) (by kernel_rfl) (fun _ _ h he => h.ext he) (HO.out.ext (ext_drew _)) (fun W N hW hF0 hN => ?_)
  have hEW : Exc (fun k _ => k = g) w1 W := Exc.of_ext hW
  have e0 : ∀ w', Exc (fun k _ => k = g) w1 w' → w'.cell? ⟨w.heap.size, 2, none⟩ = some (.slice iA p.items.length ic) := fun w' h => cell_of_row _ _ _ _ _ _ (h.blk HB1.out (by omega))
  have hX : ∀ w', Exc (fun k _ => k = g) W w' → Ext w w' := fun w' h => (Exc.trans hEW h).to_ext hE2 (fun k _ hk => by omega)
  have h3 : w.heap.size + 3 ≤ w1.heap.size := by omega
  have hi3 : (p.items.length : Int) < (p.items.length : Int) + (q.items.length : Int) := by omega
  repeat (first | (apply wpR_one; (case ho => (simp only [List.getElem?_toArray, List.getElem?_cons_succ, List.getElem?_cons_zero]; try exact rfl)); (case hw => rfl); (case hl => rfl); (case hsp => rfl); (case he => rfl); (case hv => (intro w' hw'; (try (have hw2 := Ext.trans hEW hw')); (try (have hw3 := Exc.trans hEW hw')); (try (have hw4 := Exk.trans hEW hw')); (try (have hw5 := Mrk.trans hEW hw')); go_simp; exact rfl)); (case hw0 => (first | exact Below.refl _ _ | exact Exc.of_ext (Below.refl _ _) | exact Exk.of_ext (Below.refl _ _) | exact Mrk.of_ext (Below.refl _ _))); simp only [Act.put, List.setIfInBounds_toArray, List.set_cons_succ, List.set_cons_zero]) | (apply wpR_early; (case ho => (simp only [List.getElem?_toArray, List.getElem?_cons_succ, List.getElem?_cons_zero]; try exact rfl)); (case hw => rfl); (case hl => rfl); (case hsp => rfl); (case he => rfl); (case hv => (intro w' hw'; (try have hw2 := Ext.trans hEW hw'); go_simp; exact rfl)); simp only [Act.put, List.setIfInBounds_toArray, List.set_cons_succ, List.set_cons_zero]) | (apply wpR_pass; (case ho => (simp only [List.getElem?_toArray, List.getElem?_cons_succ, List.getElem?_cons_zero]; try exact rfl)); (case hw => rfl); (case hl => rfl); simp only [Act.put, List.setIfInBounds_toArray, List.set_cons_succ, List.set_cons_zero]))
  refine wpR_new (by ((simp only [List.getElem?_toArray, List.getElem?_cons_succ, List.getElem?_cons_zero]; try exact rfl))) _ rfl rfl rfl (fun V v => SOwn.exc' (g := g) (B := w1.heap.size) (by omega) _) (fun V V' h => rfl) (fun w' hw' hK => ?_) (fun v hv => ?_)
  · unfold opAt; go_simp; refine upAt_enter ?_
    refine (clone_any (hs.ext (hX w' hw')) rfl).mono ?_
    rintro e w2 ⟨A2, c2, rfl, ho, hE3⟩
    exact ⟨_, rfl, hE3, A2, c2, rfl, ho.mono (hEW.trans hw').size⟩
  obtain ⟨A5, c5, rfl⟩ : ∃ A c, v = .slice A sep.length c := by
    obtain ⟨_, _, _, A, c, h, _⟩ := hv
    exact ⟨A, c, h⟩
  clear hv
  simp only [Act.put, List.setIfInBounds_toArray, List.set_cons_succ, List.set_cons_zero]
  repeat (first | (apply wpR_one; (case ho => (simp only [List.getElem?_toArray, List.getElem?_cons_succ, List.getElem?_cons_zero]; try exact rfl)); (case hw => rfl); (case hl => rfl); (case hsp => rfl); (case he => rfl); (case hv => (intro w' hw'; (try (have hw2 := Ext.trans hEW hw')); (try (have hw3 := Exc.trans hEW hw')); (try (have hw4 := Exk.trans hEW hw')); (try (have hw5 := Mrk.trans hEW hw')); go_simp; exact rfl)); (case hw0 => (first | exact Below.refl _ _ | exact Exc.of_ext (Below.refl _ _) | exact Exk.of_ext (Below.refl _ _) | exact Mrk.of_ext (Below.refl _ _))); simp only [Act.put, List.setIfInBounds_toArray, List.set_cons_succ, List.set_cons_zero]) | (apply wpR_early; (case ho => (simp only [List.getElem?_toArray, List.getElem?_cons_succ, List.getElem?_cons_zero]; try exact rfl)); (case hw => rfl); (case hl => rfl); (case hsp => rfl); (case he => rfl); (case hv => (intro w' hw'; (try have hw2 := Ext.trans hEW hw'); go_simp; exact rfl)); simp only [Act.put, List.setIfInBounds_toArray, List.set_cons_succ, List.set_cons_zero]) | (apply wpR_pass; (case ho => (simp only [List.getElem?_toArray, List.getElem?_cons_succ, List.getElem?_cons_zero]; try exact rfl)); (case hw => rfl); (case hl => rfl); simp only [Act.put, List.setIfInBounds_toArray, List.set_cons_succ, List.set_cons_zero]))
  refine wpR_late (by ((simp only [List.getElem?_toArray, List.getElem?_cons_succ, List.getElem?_cons_zero]; try exact rfl))) _ rfl rfl (fun V v w' w2 h he => h.ext he) (fun V V' h => by simp only [h 5 (by kernel_rfl)]) (fun w' hw' hK hF => ?_) (fun v hv => ?_)
  · have hF2 : OwnIts (w.heap.size + 3) w' (some ⟨g, 0, none⟩) ic' (p.items ++ q.items) ps := hF
    have k5 : SOwn 5 w1.heap.size sep (.slice A5 sep.length c5) w' := (hK 5 (by kernel_rfl)).2
    have c0 := World.ownsRow.cellAt hF2.row (p.items.length * 4) (by simp; omega)
    rw [show p.items.length * 4 = p.items.length * 4 + 0 by omega, rowCells_at ps _ _ 0 pr x HPR.out HX.out (by omega), Nat.add_zero] at c0
    simp only [itCells, List.getElem?_cons_zero] at c0
    have f0 := World.ownsRow.frozenAt hF2.row (p.items.length * 4)
    have hr := hF2.setKey HPR.out HX.out (k5.mono h3) (fun a ha => by
      obtain ⟨bs, hs⟩ := HO.out.each.mem a ha
      have := hs.noShare (Nat.le_refl _) k5.own
      exact ⟨this, this.symm⟩)
    have HR2 := Lib.hid hr
    clear hF hF2 hK k5 hr e0
    unfold opAt
    go_simp
    exact upAt_skip ⟨setCell_exc _ _ _ _, by rw [HL.out]; exact HR2.out⟩
  clear hv
  apply wpR_nil
  apply hN
  intro w5 hE' hK hF
  have hF5 : OwnIts (w.heap.size + 3) w5 (some ⟨g, 0, none⟩) ic' L (ps.set p.items.length (.slice A5 sep.length c5, pr.2)) := hF
  have HF5 := Lib.hid hF5
  have hE5 := hX w5 hE'
  clear hK hN hF hF5 e0 hX hEW hE' p0
  go_wp2
  go_ret
  exact ⟨_, _, _, rfl, by rw [HR.out, ← HL.out]; exact HF5.out.mono (by omega), hE5⟩
/-- A row of n items in new memory. -/
def ItsOf (B n : Nat) (l : List It) (v : Value) (w : World) : Prop := ∃ A c ps, v = .slice A n c ∧ OwnIts B w A c l ps
theorem ItsOf.lasts {D : Nat → Obj → Prop} {C : Nat} (hd : ∀ k o, D k o → k < C) (n : Nat) (l : List It) (v : Value) : Lasts (Exc D) (ItsOf C n l v) := fun w w' ⟨A, c, ps, e, h⟩ hx => ⟨A, c, ps, e, h.exc hx (fun k cs h1 h2 => by have := hd _ _ h2; omega) (fun k cs h1 h2 => by have := hd _ _ h2; omega)⟩
theorem rowB_small {l r : Pg} {sep : List UInt8} (hl : PSmall l) (hr : PSmall r) (hs : sep.length ≤ 140737488355328) : ∀ x ∈ rowB l r sep, Small x := by
  have h0 : ∀ x ∈ l.items ++ r.items, Small x := fun x hx => by
    rcases List.mem_append.1 hx with hx | hx
    · exact hl.each x hx
    · exact hr.each x hx
  unfold rowB
  split
  · intro x hx
    obtain ⟨i, hi⟩ := List.mem_iff_getElem?.1 hx
    rw [List.getElem?_modify] at hi
    cases hj : (l.items ++ r.items)[i]? with
    | none => rw [hj] at hi; simp at hi
    | some y =>
      rw [hj] at hi
      have hy := h0 y (List.mem_of_getElem? hj)
      simp only [Option.map_eq_map, Option.map_some, Option.some.injEq] at hi
      subst hi
      split
      · exact ⟨hs, hy.v⟩
      · exact hy
  · exact h0
def joinB (l r : Pg) (sep : List UInt8) : Pg × Bool := if neighB l r = true ∧ 1 ≤ l.items.length ∧ 1 ≤ r.items.length ∧ l.items.length + r.items.length ≤ 8 then ({ l with items := rowB l r sep }, true) else (Pg.zero, false)
set_option maxHeartbeats 2000000 in
theorem njoin_any {v u : Value} {p q : Pg} {A : Option Addr} {c n : Nat} {sep : List UInt8} {w : World} (hv : PgV w v p) (hu : PgV w u q) (hs : Sl w A c sep) (hn : n = sep.length) :
    Calls Try.prog 26 #[v, u, .slice A n c] w fun e w' => ∃ v', e = .returned (.tuple #[v', .bool (joinB p q sep).2]) ∧ PgO w.heap.size w' v' (joinB p q sep).1 ∧ Ext w w' := by
  subst hn
  obtain ⟨iA, ic, dA, dc, rfl, hi, hd⟩ := hv.ex
  obtain ⟨jA, jc, cA, cc, rfl, hj, hcd⟩ := hu.ex
  have hil := hi.len
  have hjl := hj.len
  go_enter Try.func26, Try.ntmps26
  go_wp2
  refine wp_cut (fun W => Ext w W ∧ W.heap[w.heap.size]? = some (.cells #[.int .i64 p.kind, .int .i64 p.level, .slice iA p.items.length ic, .slice dA p.data.length dc, .int .i64 p.next] 26) ∧
    W.heap[w.heap.size + 1]? = some (.cells #[.int .i64 q.kind, .int .i64 q.level, .slice jA q.items.length jc, .slice cA q.data.length cc, .int .i64 q.next] 26) ∧
    W.heap[w.heap.size + 1 + 1]? = some (.cells #[.int .i64 0, .int .i64 0, .slice none 0 0, .slice none 0 0, .int .i64 0] 26)) ⟨((ext_alloc _ _).trans (ext_alloc _ _)).trans (ext_alloc _ _), (ext_alloc _ _).blk (heap_alloc2_old _ _ _), (ext_alloc _ _).blk (heap_alloc2_new _ _ _), heap_alloc_at _ _ _ (by simp)⟩ ?_
  rintro w1 ⟨hE, hb1, hb2, hb3⟩
  have ea0 : ∀ w', Ext w1 w' → w'.cell? ⟨w.heap.size, 0, none⟩ = some (.int .i64 p.kind) := fun w' h => cell_of_row _ _ _ _ _ _ (h.blk hb1)
  have ea1 : ∀ w', Ext w1 w' → w'.cell? ⟨w.heap.size, 1, none⟩ = some (.int .i64 p.level) := fun w' h => cell_of_row _ _ _ _ _ _ (h.blk hb1)
  have ea2 : ∀ w', Ext w1 w' → w'.cell? ⟨w.heap.size, 2, none⟩ = some (.slice iA p.items.length ic) := fun w' h => cell_of_row _ _ _ _ _ _ (h.blk hb1)
  have ea3 : ∀ w', Ext w1 w' → w'.cell? ⟨w.heap.size, 3, none⟩ = some (.slice dA p.data.length dc) := fun w' h => cell_of_row _ _ _ _ _ _ (h.blk hb1)
  have ea4 : ∀ w', Ext w1 w' → w'.cell? ⟨w.heap.size, 4, none⟩ = some (.int .i64 p.next) := fun w' h => cell_of_row _ _ _ _ _ _ (h.blk hb1)
  have eb0 : ∀ w', Ext w1 w' → w'.cell? ⟨w.heap.size + 1, 0, none⟩ = some (.int .i64 q.kind) := fun w' h => cell_of_row _ _ _ _ _ _ (h.blk hb2)
  have eb1 : ∀ w', Ext w1 w' → w'.cell? ⟨w.heap.size + 1, 1, none⟩ = some (.int .i64 q.level) := fun w' h => cell_of_row _ _ _ _ _ _ (h.blk hb2)
  have eb2 : ∀ w', Ext w1 w' → w'.cell? ⟨w.heap.size + 1, 2, none⟩ = some (.slice jA q.items.length jc) := fun w' h => cell_of_row _ _ _ _ _ _ (h.blk hb2)
  have eb3 : ∀ w', Ext w1 w' → w'.cell? ⟨w.heap.size + 1, 3, none⟩ = some (.slice cA q.data.length cc) := fun w' h => cell_of_row _ _ _ _ _ _ (h.blk hb2)
  have eb4 : ∀ w', Ext w1 w' → w'.cell? ⟨w.heap.size + 1, 4, none⟩ = some (.int .i64 q.next) := fun w' h => cell_of_row _ _ _ _ _ _ (h.blk hb2)
  refine wp_region_rg Ext rel_ext (fun _ => True) [0, 1, 2, 3, 4, 5, 6, 7] (fun _ => none) (fun _ => none) (fun _ => false) (by kernel_rfl) (by kernel_rfl) (fun _ _ _ _ => trivial) trivial (fun W N hW _ hN => ?_)
  have hEW : Ext w1 W := hW
  repeat (first | (apply wpR_one; (case ho => (simp only [List.getElem?_toArray, List.getElem?_cons_succ, List.getElem?_cons_zero]; try exact rfl)); (case hw => rfl); (case hl => rfl); (case hsp => rfl); (case he => rfl); (case hv => (intro w' hw'; (try (have hw2 := Ext.trans hEW hw')); (try (have hw3 := Exc.trans hEW hw')); (try (have hw4 := Exk.trans hEW hw')); (try (have hw5 := Mrk.trans hEW hw')); go_simp; exact rfl)); (case hw0 => (first | exact Below.refl _ _ | exact Exc.of_ext (Below.refl _ _) | exact Exk.of_ext (Below.refl _ _) | exact Mrk.of_ext (Below.refl _ _))); simp only [Act.put, List.setIfInBounds_toArray, List.set_cons_succ, List.set_cons_zero]) | (apply wpR_early; (case ho => (simp only [List.getElem?_toArray, List.getElem?_cons_succ, List.getElem?_cons_zero]; try exact rfl)); (case hw => rfl); (case hl => rfl); (case hsp => rfl); (case he => rfl); (case hv => (intro w' hw'; (try have hw2 := Ext.trans hEW hw'); go_simp; exact rfl)); simp only [Act.put, List.setIfInBounds_toArray, List.set_cons_succ, List.set_cons_zero]) | (apply wpR_pass; (case ho => (simp only [List.getElem?_toArray, List.getElem?_cons_succ, List.getElem?_cons_zero]; try exact rfl)); (case hw => rfl); (case hl => rfl); simp only [Act.put, List.setIfInBounds_toArray, List.set_cons_succ, List.set_cons_zero]))
  apply wpR_nil
  apply hN
  intro w2 hE' hK _
  have hE2 := hEW.trans hE'
  clear hK hN hEW hE' hW
  go_wp2_with fail
  refine (neighbours_any (hv.ext (hE.trans hE2)) (hu.ext (hE.trans hE2))).mono ?_
  rintro e w3 ⟨rfl, hE3⟩
  have b3 := (hE2.trans hE3).blk hb3
  have hE4 := hE2.trans hE3
  have hEw := hE.trans hE4
  by_cases hok : neighB p q = true ∧ 1 ≤ p.items.length ∧ 1 ≤ q.items.length ∧ p.items.length + q.items.length ≤ 8
  rotate_left
  · have HQ := Lib.hid (show joinB p q sep = (Pg.zero, false) by unfold joinB; rw [if_neg hok])
    have hcs : neighB p q = false ∨ (neighB p q = true ∧ (p.items.length : Int) < 1) ∨ (neighB p q = true ∧ (1 : Int) ≤ p.items.length ∧ (q.items.length : Int) < 1) ∨ (neighB p q = true ∧ (1 : Int) ≤ p.items.length ∧ (1 : Int) ≤ q.items.length ∧ (8 : Int) < (p.items.length : Int) + (q.items.length : Int)) := by
      cases hz : neighB p q
      · exact .inl rfl
      · right
        have h0 : ¬ (1 ≤ p.items.length ∧ 1 ≤ q.items.length ∧ p.items.length + q.items.length ≤ 8) := fun h => hok ⟨hz, h⟩
        have h1 : (p.items.length : Int) < 1 ∨ ((1 : Int) ≤ p.items.length ∧ (q.items.length : Int) < 1) ∨ ((1 : Int) ≤ p.items.length ∧ (1 : Int) ≤ q.items.length ∧ (8 : Int) < (p.items.length : Int) + (q.items.length : Int)) := by omega
        rcases h1 with h | h | h
        · exact .inl ⟨rfl, h⟩
        · exact .inr (.inl ⟨rfl, h⟩)
        · exact .inr (.inr ⟨rfl, h⟩)
    clear hok hE2 hE3
    rcases hcs with h1 | ⟨h1, h2⟩ | ⟨h1, h2, h3⟩ | ⟨h1, h2, h3, h4⟩
    all_goals
      rw [h1]
      clear h1
      go_wp2_with (refine wpList_store_box rfl 26 _ _ rfl (w.heap.size + 1 + 1) _ rfl rfl 26 _ b3 (by kernel_rfl) rfl (by simp [Value.oneCell']) (fun w4 hb hg => ?_))
      refine bodyPost_ret (results_cell_tmp' rfl _ _ _ _ _ _ _ rfl hb Try.underlying26 rfl (by kernel_rfl)) rfl ⟨_, by rw [HQ.out]; rfl, by rw [HQ.out]; exact PgO.zero _ _, ext_only hEw hg (by omega)⟩
  have HQ := Lib.hid (show joinB p q sep = ({ p with items := rowB p q sep }, true) by unfold joinB; rw [if_pos hok])
  obtain ⟨h1, h2, h3, h4⟩ := hok
  rw [h1]
  clear h1
  have i1 : (1 : Int) ≤ p.items.length := by omega
  have i2 : (1 : Int) ≤ q.items.length := by omega
  have i3 : (p.items.length : Int) + (q.items.length : Int) ≤ 8 := by omega
  have hsz := (Array.getElem?_eq_some_iff.1 b3).1
  clear hE2 hE3
  go_wp2
  refine wp_region_rg (Exc fun k _ => k = w.heap.size + 1 + 1) (rel_exc _) (fun w' => w'.heap[w.heap.size + 1 + 1]? = some (.cells #[.int .i64 0, .int .i64 0, .slice none 0 0, .slice none 0 0, .int .i64 0] 26)) [0, 1, 2, 3, 4, 5, 6, 7, 8] (fun i => match i with
    | 4 => some fun _ => ItsOf w3.heap.size (p.items.length + q.items.length) (rowB p q sep)
    | 5 => some fun V => Built 23 w3.heap.size #[V 4]
    | 6 => some fun V v w' => PgO w3.heap.size w' v { p with items := rowB p q sep }
    | _ => none) (fun i => match i with
    | 7 => some fun V _ => StoredIn (w.heap.size + 1 + 1) (V 6)
    | _ => none) (fun _ => false) (by kernel_rfl) (by kernel_rfl) (fun _ _ h he => he.blk h) b3 (fun W N hW hF0 hN => ?_)
  have hEW : Exc (fun k _ => k = w.heap.size + 1 + 1) w3 W := Exc.of_ext hW
  have hX : ∀ w', Exc (fun k _ => k = w.heap.size + 1 + 1) W w' → Ext w w' := fun w' h => (Exc.trans hEW h).to_ext hEw (fun k _ hk => by omega)
  have hb1' := hE4.blk hb1
  have hb2' := hE4.blk hb2
  have HB1 := Lib.hid hb1'
  have HB2 := Lib.hid hb2'
  clear ea0 ea1 ea2 ea3 ea4 eb0 eb1 eb2 eb3 eb4 hb1' hb2' hb1 hb2 hb3
  have ea0 : ∀ w', Exc (fun k _ => k = w.heap.size + 1 + 1) w3 w' → w'.cell? ⟨w.heap.size, 0, none⟩ = some (.int .i64 p.kind) := fun w' h => cell_of_row _ _ _ _ _ _ (h.blk HB1.out (by omega))
  have ea1 : ∀ w', Exc (fun k _ => k = w.heap.size + 1 + 1) w3 w' → w'.cell? ⟨w.heap.size, 1, none⟩ = some (.int .i64 p.level) := fun w' h => cell_of_row _ _ _ _ _ _ (h.blk HB1.out (by omega))
  have ea2 : ∀ w', Exc (fun k _ => k = w.heap.size + 1 + 1) w3 w' → w'.cell? ⟨w.heap.size, 2, none⟩ = some (.slice iA p.items.length ic) := fun w' h => cell_of_row _ _ _ _ _ _ (h.blk HB1.out (by omega))
  have ea3 : ∀ w', Exc (fun k _ => k = w.heap.size + 1 + 1) w3 w' → w'.cell? ⟨w.heap.size, 3, none⟩ = some (.slice dA p.data.length dc) := fun w' h => cell_of_row _ _ _ _ _ _ (h.blk HB1.out (by omega))
  have ea4 : ∀ w', Exc (fun k _ => k = w.heap.size + 1 + 1) w3 w' → w'.cell? ⟨w.heap.size, 4, none⟩ = some (.int .i64 p.next) := fun w' h => cell_of_row _ _ _ _ _ _ (h.blk HB1.out (by omega))
  have eb0 : ∀ w', Exc (fun k _ => k = w.heap.size + 1 + 1) w3 w' → w'.cell? ⟨w.heap.size + 1, 0, none⟩ = some (.int .i64 q.kind) := fun w' h => cell_of_row _ _ _ _ _ _ (h.blk HB2.out (by omega))
  have eb1 : ∀ w', Exc (fun k _ => k = w.heap.size + 1 + 1) w3 w' → w'.cell? ⟨w.heap.size + 1, 1, none⟩ = some (.int .i64 q.level) := fun w' h => cell_of_row _ _ _ _ _ _ (h.blk HB2.out (by omega))
  have eb2 : ∀ w', Exc (fun k _ => k = w.heap.size + 1 + 1) w3 w' → w'.cell? ⟨w.heap.size + 1, 2, none⟩ = some (.slice jA q.items.length jc) := fun w' h => cell_of_row _ _ _ _ _ _ (h.blk HB2.out (by omega))
  have eb3 : ∀ w', Exc (fun k _ => k = w.heap.size + 1 + 1) w3 w' → w'.cell? ⟨w.heap.size + 1, 3, none⟩ = some (.slice cA q.data.length cc) := fun w' h => cell_of_row _ _ _ _ _ _ (h.blk HB2.out (by omega))
  have eb4 : ∀ w', Exc (fun k _ => k = w.heap.size + 1 + 1) w3 w' → w'.cell? ⟨w.heap.size + 1, 4, none⟩ = some (.int .i64 q.next) := fun w' h => cell_of_row _ _ _ _ _ _ (h.blk HB2.out (by omega))
  have hD : ∀ (k : Nat) (o : Obj), k = w.heap.size + 1 + 1 → k < w3.heap.size := fun k _ hk => by omega
  repeat (first | (apply wpR_one; (case ho => (simp only [List.getElem?_toArray, List.getElem?_cons_succ, List.getElem?_cons_zero]; try exact rfl)); (case hw => rfl); (case hl => rfl); (case hsp => rfl); (case he => rfl); (case hv => (intro w' hw'; (try (have hw2 := Ext.trans hEW hw')); (try (have hw3 := Exc.trans hEW hw')); (try (have hw4 := Exk.trans hEW hw')); (try (have hw5 := Mrk.trans hEW hw')); go_simp; exact rfl)); (case hw0 => (first | exact Below.refl _ _ | exact Exc.of_ext (Below.refl _ _) | exact Exk.of_ext (Below.refl _ _) | exact Mrk.of_ext (Below.refl _ _))); simp only [Act.put, List.setIfInBounds_toArray, List.set_cons_succ, List.set_cons_zero]) | (apply wpR_early; (case ho => (simp only [List.getElem?_toArray, List.getElem?_cons_succ, List.getElem?_cons_zero]; try exact rfl)); (case hw => rfl); (case hl => rfl); (case hsp => rfl); (case he => rfl); (case hv => (intro w' hw'; (try have hw2 := Ext.trans hEW hw'); go_simp; exact rfl)); simp only [Act.put, List.setIfInBounds_toArray, List.set_cons_succ, List.set_cons_zero]) | (apply wpR_pass; (case ho => (simp only [List.getElem?_toArray, List.getElem?_cons_succ, List.getElem?_cons_zero]; try exact rfl)); (case hw => rfl); (case hl => rfl); simp only [Act.put, List.setIfInBounds_toArray, List.set_cons_succ, List.set_cons_zero]))
  refine wpR_new (by ((simp only [List.getElem?_toArray, List.getElem?_cons_succ, List.getElem?_cons_zero]; try exact rfl))) _ rfl rfl rfl (fun V v => ItsOf.lasts hD _ _ _) (fun V V' h => rfl) (fun w' hw' hK => ?_) (fun v hv => ?_)
  · have HX := Lib.hid (hX w' hw')
    clear hK
    unfold opAt; go_simp; refine upAt_enter ?_
    refine (row_any (hv.ext HX.out) (hu.ext HX.out) (hs.ext HX.out) rfl h3 (by omega)).mono ?_
    rintro e w2 ⟨A5, c5, ps5, rfl, ho, hE2⟩
    exact ⟨_, rfl, hE2, _, _, _, rfl, ho.mono (hEW.trans hw').size⟩
  obtain ⟨A5, c5, rfl⟩ : ∃ A c, v = .slice A (p.items.length + q.items.length) c := by
    obtain ⟨_, _, _, A, c, _, h, _⟩ := hv
    exact ⟨A, c, h⟩
  clear hv
  simp only [Act.put, List.setIfInBounds_toArray, List.set_cons_succ, List.set_cons_zero]
  repeat (first | (apply wpR_one; (case ho => (simp only [List.getElem?_toArray, List.getElem?_cons_succ, List.getElem?_cons_zero]; try exact rfl)); (case hw => rfl); (case hl => rfl); (case hsp => rfl); (case he => rfl); (case hv => (intro w' hw'; (try (have hw2 := Ext.trans hEW hw')); (try (have hw3 := Exc.trans hEW hw')); (try (have hw4 := Exk.trans hEW hw')); (try (have hw5 := Mrk.trans hEW hw')); go_simp; exact rfl)); (case hw0 => (first | exact Below.refl _ _ | exact Exc.of_ext (Below.refl _ _) | exact Exk.of_ext (Below.refl _ _) | exact Mrk.of_ext (Below.refl _ _))); simp only [Act.put, List.setIfInBounds_toArray, List.set_cons_succ, List.set_cons_zero]) | (apply wpR_early; (case ho => (simp only [List.getElem?_toArray, List.getElem?_cons_succ, List.getElem?_cons_zero]; try exact rfl)); (case hw => rfl); (case hl => rfl); (case hsp => rfl); (case he => rfl); (case hv => (intro w' hw'; (try have hw2 := Ext.trans hEW hw'); go_simp; exact rfl)); simp only [Act.put, List.setIfInBounds_toArray, List.set_cons_succ, List.set_cons_zero]) | (apply wpR_pass; (case ho => (simp only [List.getElem?_toArray, List.getElem?_cons_succ, List.getElem?_cons_zero]; try exact rfl)); (case hw => rfl); (case hl => rfl); simp only [Act.put, List.setIfInBounds_toArray, List.set_cons_succ, List.set_cons_zero]))
  refine wpR_new (by ((simp only [List.getElem?_toArray, List.getElem?_cons_succ, List.getElem?_cons_zero]; try exact rfl))) _ rfl rfl rfl (fun V v => Built.lasts hD _ _) (fun V V' h => by simp only [h 4 (by kernel_rfl)]) (fun w' hw' hK => ?_) (fun v hv => ?_)
  · have hXs := (hEW.trans hw').size
    unfold opAt
    go_simp
    exact upAt_value ⟨ext_alloc _ _, _, rfl, hXs, heap_alloc_new _ _⟩
  obtain ⟨h, rfl⟩ : ∃ h, v = .slice (some ⟨h, 0, none⟩) 1 1 := by
    obtain ⟨_, _, _, h, e, _⟩ := hv
    exact ⟨h, e⟩
  clear hv
  simp only [Act.put, List.setIfInBounds_toArray, List.set_cons_succ, List.set_cons_zero]
  refine wpR_new (by ((simp only [List.getElem?_toArray, List.getElem?_cons_succ, List.getElem?_cons_zero]; try exact rfl))) _ rfl rfl rfl (fun V v => PgO.lasts hD _ _) (fun V V' h => rfl) (fun w' hw' hK => ?_) (fun v hv => ?_)
  · have HK5 := Lib.hid (hK 5 (by kernel_rfl)).2
    have HK4 := Lib.hid (hK 4 (by kernel_rfl)).2
    have HX := Lib.hid (hX w' hw')
    clear hK
    unfold opAt; go_simp; refine upAt_enter ?_
    obtain ⟨h', e4, _, hbk⟩ := HK5.out
    injection e4 with e4
    injection e4 with e4
    injection e4 with e4
    subst e4
    obtain ⟨A6, c6, ps6, e6, ho6⟩ := HK4.out
    injection e6 with e61 _ e62
    subst e61 e62
    have hlen := rowB_length p q sep
    have hpc : Pcs w' (some ⟨h, 0, none⟩) [rowB p q sep] := by
      intro _
      refine ⟨_, _, rfl, fun j x hx => ?_⟩
      rw [cell_of_row _ _ _ _ _ _ hbk]
      rcases j with _ | j
      · simp only [List.getElem?_cons_zero, Option.some.injEq] at hx
        subst hx
        have := ho6.its (by omega) (rowB_small hv.small hu.small hs.len)
        exact ⟨_, _, _, rfl, hlen.symm, this⟩
      · simp at hx
    refine (with_any (hv.ext HX.out) hpc rfl (Nat.le_refl _) (by simp) (by simp [joined]; omega)).mono ?_
    rintro e w2 ⟨v', rfl, hO, hE2⟩
    exact ⟨_, rfl, hE2, by simpa [joined] using hO.mono (hEW.trans hw').size⟩
  obtain ⟨iA', dA', ic', dc', rfl⟩ : ∃ iA' dA' ic' dc', v = .agg #[.int .i64 p.kind, .int .i64 p.level, .slice iA' (rowB p q sep).length ic', .slice dA' p.data.length dc', .int .i64 p.next] := by
    obtain ⟨_, _, _, hO⟩ := hv
    obtain ⟨iA', ic', dA', dc', ps, e, _⟩ := hO.ex
    exact ⟨_, _, _, _, e⟩
  clear hv
  simp only [Act.put, List.setIfInBounds_toArray, List.set_cons_succ, List.set_cons_zero]
  refine wpR_late (by ((simp only [List.getElem?_toArray, List.getElem?_cons_succ, List.getElem?_cons_zero]; try exact rfl))) _ rfl rfl (fun V v w' w2 h he => h.ext he) (fun V V' h => by simp only [h 6 (by kernel_rfl)]) (fun w' hw' hK hF => ?_) (fun v hv => ?_)
  · refine opAt_list rfl #[] (fun Q hQ => ?_)
    refine wpList_store_box rfl 26 _ _ rfl (w.heap.size + 1 + 1) _ rfl rfl 26 _ hF (by kernel_rfl) rfl (by simp [Value.oneCell']) (fun w2 hb hg => ?_)
    exact hQ _ _ ⟨Exc.of_only hg (fun _ _ => rfl), _, rfl, hb⟩
  clear hv
  simp only [Act.put, List.setIfInBounds_toArray, List.set_cons_succ, List.set_cons_zero]
  repeat (first | (apply wpR_one; (case ho => (simp only [List.getElem?_toArray, List.getElem?_cons_succ, List.getElem?_cons_zero]; try exact rfl)); (case hw => rfl); (case hl => rfl); (case hsp => rfl); (case he => rfl); (case hv => (intro w' hw'; (try (have hw2 := Ext.trans hEW hw')); (try (have hw3 := Exc.trans hEW hw')); (try (have hw4 := Exk.trans hEW hw')); (try (have hw5 := Mrk.trans hEW hw')); go_simp; exact rfl)); (case hw0 => (first | exact Below.refl _ _ | exact Exc.of_ext (Below.refl _ _) | exact Exk.of_ext (Below.refl _ _) | exact Mrk.of_ext (Below.refl _ _))); simp only [Act.put, List.setIfInBounds_toArray, List.set_cons_succ, List.set_cons_zero]) | (apply wpR_early; (case ho => (simp only [List.getElem?_toArray, List.getElem?_cons_succ, List.getElem?_cons_zero]; try exact rfl)); (case hw => rfl); (case hl => rfl); (case hsp => rfl); (case he => rfl); (case hv => (intro w' hw'; (try have hw2 := Ext.trans hEW hw'); go_simp; exact rfl)); simp only [Act.put, List.setIfInBounds_toArray, List.set_cons_succ, List.set_cons_zero]) | (apply wpR_pass; (case ho => (simp only [List.getElem?_toArray, List.getElem?_cons_succ, List.getElem?_cons_zero]; try exact rfl)); (case hw => rfl); (case hl => rfl); simp only [Act.put, List.setIfInBounds_toArray, List.set_cons_succ, List.set_cons_zero]))
  apply wpR_nil
  apply hN
  intro w5 hE' hK hF
  have hO : PgO w3.heap.size w5 _ { p with items := rowB p q sep } := (hK 6).2
  obtain ⟨cs, hcs, hb⟩ := hF
  injection hcs with hcs
  subst hcs
  have hE5 := hX w5 hE'
  have HO := Lib.hid hO
  have hw3 := hEw.size
  clear hK hN hO ea0 ea1 ea2 ea3 ea4 eb0 eb1 eb2 eb3 eb4 hX hD hE' hEW
  go_wp2
  exact bodyPost_ret (results_cell_tmp' rfl _ _ _ _ _ _ _ rfl hb Try.underlying26 rfl (by kernel_rfl)) rfl ⟨_, by rw [HQ.out]; rfl, by rw [HQ.out]; exact HO.out.mono (by omega), hE5⟩
end Go.Proofs.Ytjjbckdiojleeaa
