/- The contract of coppiceref12.Join. No condition but that what comes in lies in memory. -/
import Derived.Test.YtjjbckdiojleeaaRins
import Derived.Test.YtjjbckdiojleeaaRsmall
namespace Go.Proofs.Ytjjbckdiojleeaa
set_option linter.unusedVariables false
open Go.RowKit Go.Proofs
/-- wpList_store_box, of a store as it stands: it fails at once where none stands. -/
theorem wpList_store_at {P : Program} {ops : Array Oper} {rest : List Oper} {dst : Option Nat} {ty0 : TypeId} {pos : String} {after : Array Edge} {a : Act} {w : World} {Q : Exit → Act → World → Prop} (ty : TypeId) (x y : Operand)
    (g : Nat) (cells : Array Value) (hx : a.eval x = .pointer (some ⟨g, 0, none⟩)) (hy : a.eval y = .agg cells)
    (t : TypeId) (old : Array Value) (hg : w.heap[g]? = some (.cells old t (0, 0))) (hi : (P.info? ty).map (·.size) = some cells.size)
    (hold : old.size = cells.size) (h1 : cells.all (·.oneCell') = true)
    (h : ∀ w', w'.heap[g]? = some (.cells cells t (0, 0)) → w.grownBy w' (some g) → wpList P ops Q rest (a.put dst undef) w') : wpList P ops Q (⟨dst, .store ty x y, ty0, pos, after, none⟩ :: rest) a w :=
  wpList_store_box (o := ⟨dst, .store ty x y, ty0, pos, after, none⟩) rfl ty x y rfl g cells hx hy t old hg hi hold h1 h
/-- Blocks of items from B on. -/
def ItBlk (B : Nat) : Nat → Obj → Prop := fun k o => B ≤ k ∧ ∃ (cs : Array Value) (fr : Nat × Nat), o = .cells cs 51 fr
theorem ItBlk.not8 {B k : Nat} {cs : Array Value} {fr : Nat × Nat} : ¬ ItBlk B k (.cells cs 5 fr) := fun ⟨_, _, _, h⟩ => by injection h with _ h; exact absurd h (by decide)
theorem ItBlk.notLt {B k : Nat} {o : Obj} (hk : k < B) : ¬ ItBlk B k o := fun ⟨h, _⟩ => by omega
theorem RowI.blk {B : Nat} {w : World} {A : Option Addr} {c : Nat} {l : List It} {ps : List (Value × Value)} (h : RowI B w A c l ps) {g : Nat} {o : Obj} (hg : (Value.slice A l.length c).ownBlock = some g) (ho : w.heap[g]? = some o) : ItBlk B g o := by
  rcases h.2 with ⟨hv, _⟩ | ⟨g', cap, cur, hv, hb, hk, r⟩
  · rw [hv] at hg; cases hg
  · rw [hv] at hg
    injection hg with hg
    subst hg
    rw [hk] at ho
    injection ho with ho
    exact ⟨hb, _, _, ho.symm⟩
/-- A key where it lay when the call began, or in new memory. -/
def KeyAt (B : Nat) (w0 w : World) (v : Value) (bs : List UInt8) : Prop := ∃ A c, v = .slice A bs.length c ∧ (Sl w0 A c bs ∨ (Own 5 B w A c bs ∧ bs.length ≤ 140737488355328))
theorem KeyAt.exc {B B' : Nat} {w0 w w' : World} {v : Value} {bs : List UInt8} (h : KeyAt B w0 w v bs) (hx : Exc (ItBlk B') w w') : KeyAt B w0 w' v bs := by
  obtain ⟨A, c, h1, h2 | ⟨h2, h3⟩⟩ := h
  · exact ⟨A, c, h1, .inl h2⟩
  · exact ⟨A, c, h1, .inr ⟨ownsRow_exc h2 hx (fun k cs _ => ItBlk.not8), h3⟩⟩
structure RowT (B : Nat) (w0 w : World) (v : Value) (l : List It) : Prop where
  mk_ ::
  ex : ∃ A c ps, v = .slice A l.length c ∧ RowI B w A c l ps ∧ Each (KeyAt B w0 w) ps l
theorem RowS.toT {B : Nat} {w0 w : World} {v : Value} {l : List It} (h : RowS B w0 w v l) : RowT B w0 w v l := by
  obtain ⟨A, c, ps, h1, h2, h3⟩ := h.ex
  exact ⟨A, c, ps, h1, h2, h3.mono fun v bs ⟨A, c, e, hs⟩ => ⟨A, c, e, .inl hs⟩⟩
theorem RowT.its {B : Nat} {w0 w : World} {A : Option Addr} {c n : Nat} {l : List It} (h : RowT B w0 w (.slice A n c) l) (he : Ext w0 w) (hl : l.length ≤ 2199023255552) : n = l.length ∧ Its w A c l := by
  obtain ⟨A', c', ps, h1, h2, h3⟩ := h.ex
  injection h1 with h1 h4 h5
  subst h1 h4 h5
  refine ⟨rfl, h2.its h3 (fun v bs hk => ?_) hl⟩
  obtain ⟨A, c, e, hs | ⟨hs, hl⟩⟩ := hk
  · exact ⟨A, c, e, hs.ext he⟩
  · exact ⟨A, c, e, hs.sl hl⟩
theorem RowT.push {B B' : Nat} {w0 w1 w2 : World} {l : List It} {ps : List (Value × Value)} (h3 : Each (KeyAt B w0 w1) ps l) (hx : Exc (ItBlk B') w1 w2) {x : It} {kA vA : Option Addr} {kc vc : Nat} {A' : Option Addr} {c' : Nat}
    (hr : RowI B w2 A' c' (l ++ [x]) (ps ++ [(.slice kA x.key.length kc, .slice vA x.val.length vc)])) (hk : KeyAt B w0 w1 (.slice kA x.key.length kc) x.key) (hv : KeyAt B w0 w1 (.slice vA x.val.length vc) x.val) : RowT B w0 w2 (.slice A' (l.length + 1) c') (l ++ [x]) :=
  ⟨A', c', _, by simp, hr, (h3.mono fun v bs h => h.exc hx).append ⟨hk.exc hx, hv.exc hx, trivial⟩⟩
/-- The right page's items as they stand in one page. -/
def tlB (kind : Int) (sep : List UInt8) (l : List It) : List It := if kind = 2 then l.modify 0 (·.keyed sep) else l
theorem tlB_nil (kind : Int) (sep : List UInt8) : tlB kind sep [] = [] := by unfold tlB; split <;> simp
theorem tlB_first {l : List It} {x : It} (h : l[0]? = some x) (sep : List UInt8) : tlB 2 sep (l.take 1) = [x.keyed sep] := by
  cases l with
  | nil => simp at h
  | cons a l => simp only [List.getElem?_cons_zero, Option.some.injEq] at h; subst h; simp [tlB]
theorem tlB_step {kind : Int} {sep : List UInt8} {l : List It} {k : Nat} {x : It} (h : l[k]? = some x) (hk : kind ≠ 2 ∨ 0 < k) : tlB kind sep (l.take (k + 1)) = tlB kind sep (l.take k) ++ [x] := by
  have hl := (List.getElem?_eq_some_iff.1 h).1
  rw [take_at h]
  unfold tlB
  by_cases h2 : kind = 2
  · rw [if_pos h2, if_pos h2]
    cases k with
    | zero => omega
    | succ k =>
      cases l with
      | nil => simp at hl
      | cons a l => rfl
  · rw [if_neg h2, if_neg h2]
theorem tlB_length (kind : Int) (sep : List UInt8) (l : List It) : (tlB kind sep l).length = l.length := by unfold tlB; split <;> simp
theorem modify_app' (l r : List It) (f : It → It) : (l ++ r).modify l.length f = l ++ r.modify 0 f := by
  induction l with
  | nil => rfl
  | cons a l ih => simp only [List.cons_append, List.length_cons, List.modify_succ_cons, ih]
theorem rowB_tl (p q : Pg) (sep : List UInt8) : rowB p q sep = p.items ++ tlB p.kind sep q.items := by
  unfold rowB tlB
  split
  · exact modify_app' _ _ _
  · rfl
set_option maxRecDepth 100000 in
set_option maxHeartbeats 2000000 in
theorem rjoin_any {v u : Value} {p q : Pg} {A : Option Addr} {c n : Nat} {sep : List UInt8} {w : World} (hv : PgV w v p) (hu : PgV w u q) (hs : Sl w A c sep) (hn : n = sep.length) :
    Calls Try.prog 27 #[v, u, .slice A n c] w fun e w' => ∃ v', e = .returned (.tuple #[v', .bool (joinB p q sep).2]) ∧ PgO w.heap.size w' v' (joinB p q sep).1 ∧ Ext w w' := by
  subst hn
  obtain ⟨iA, ic, dA, dc, rfl, hi, hd⟩ := hv.ex
  obtain ⟨jA, jc, cA, cc, rfl, hj, hcd⟩ := hu.ex
  have hil := hi.len
  have hjl := hj.len
  clear hd hcd hu
  have hEE := ((ext_alloc w (.cells #[.int .i64 p.kind, .int .i64 p.level, .slice iA p.items.length ic, .slice dA p.data.length dc, .int .i64 p.next] 26)).trans (ext_alloc _ (.cells #[.int .i64 q.kind, .int .i64 q.level, .slice jA q.items.length jc, .slice cA q.data.length cc, .int .i64 q.next] 26))).trans (ext_alloc _ (.cells #[.int .i64 0, .int .i64 0, .slice none 0 0, .slice none 0 0, .int .i64 0] 26))
  have K0 := Lib.hid ((ext_alloc _ (.cells #[.int .i64 0, .int .i64 0, .slice none 0 0, .slice none 0 0, .int .i64 0] 26)).blk (heap_alloc2_old w (.cells #[.int .i64 p.kind, .int .i64 p.level, .slice iA p.items.length ic, .slice dA p.data.length dc, .int .i64 p.next] 26) (.cells #[.int .i64 q.kind, .int .i64 q.level, .slice jA q.items.length jc, .slice cA q.data.length cc, .int .i64 q.next] 26)))
  have K1 := Lib.hid ((ext_alloc _ (.cells #[.int .i64 0, .int .i64 0, .slice none 0 0, .slice none 0 0, .int .i64 0] 26)).blk (heap_alloc2_new w (.cells #[.int .i64 p.kind, .int .i64 p.level, .slice iA p.items.length ic, .slice dA p.data.length dc, .int .i64 p.next] 26) (.cells #[.int .i64 q.kind, .int .i64 q.level, .slice jA q.items.length jc, .slice cA q.data.length cc, .int .i64 q.next] 26)))
  have K2 := Lib.hid (heap_alloc_at ((w.alloc (.cells #[.int .i64 p.kind, .int .i64 p.level, .slice iA p.items.length ic, .slice dA p.data.length dc, .int .i64 p.next] 26)).alloc (.cells #[.int .i64 q.kind, .int .i64 q.level, .slice jA q.items.length jc, .slice cA q.data.length cc, .int .i64 q.next] 26)) (.cells #[.int .i64 0, .int .i64 0, .slice none 0 0, .slice none 0 0, .int .i64 0] 26) (w.heap.size + 1 + 1) (by simp))
  obtain ⟨i0, hii, hz0, hz1, hz2⟩ := info_parts infoItem
  by_cases hok : neighB p q = true ∧ 1 ≤ p.items.length ∧ 1 ≤ q.items.length ∧ p.items.length + q.items.length ≤ 8
  rotate_left
  · have HQ := Lib.hid (show joinB p q sep = (Pg.zero, false) by unfold joinB; rw [if_neg hok])
    have hcs : meantB p.kind = false ∨ (meantB p.kind = true ∧ (p.kind != q.kind) = true) ∨ (meantB p.kind = true ∧ (p.kind != q.kind) = false ∧ (p.level != q.level) = true) ∨ (meantB p.kind = true ∧ (p.kind != q.kind) = false ∧ (p.level != q.level) = false ∧ (p.items.length : Int) < 1) ∨ (meantB p.kind = true ∧ (p.kind != q.kind) = false ∧ (p.level != q.level) = false ∧ (1 : Int) ≤ p.items.length ∧ (q.items.length : Int) < 1) ∨ (meantB p.kind = true ∧ (p.kind != q.kind) = false ∧ (p.level != q.level) = false ∧ (1 : Int) ≤ p.items.length ∧ (1 : Int) ≤ q.items.length ∧ (8 : Int) < (p.items.length : Int) + (q.items.length : Int)) := by
      cases h1 : meantB p.kind
      · exact .inl rfl
      cases h2 : p.kind != q.kind
      rotate_left
      · exact .inr (.inl ⟨rfl, rfl⟩)
      cases h3 : p.level != q.level
      rotate_left
      · exact .inr (.inr (.inl ⟨rfl, rfl, rfl⟩))
      have hnb : neighB p q = true := by
        unfold neighB
        rw [h1]
        simp only [bne_eq_false_iff_eq] at h2 h3
        simp [h2, h3]
      have h0 : ¬ (1 ≤ p.items.length ∧ 1 ≤ q.items.length ∧ p.items.length + q.items.length ≤ 8) := fun h => hok ⟨hnb, h⟩
      have h4 : (p.items.length : Int) < 1 ∨ ((1 : Int) ≤ p.items.length ∧ (q.items.length : Int) < 1) ∨ ((1 : Int) ≤ p.items.length ∧ (1 : Int) ≤ q.items.length ∧ (8 : Int) < (p.items.length : Int) + (q.items.length : Int)) := by omega
      rcases h4 with h | h | h
      · exact .inr (.inr (.inr (.inl ⟨rfl, rfl, rfl, h⟩)))
      · exact .inr (.inr (.inr (.inr (.inl ⟨rfl, rfl, rfl, h⟩))))
      · exact .inr (.inr (.inr (.inr (.inr ⟨rfl, rfl, rfl, h⟩))))
    clear hok
    go_enter Try.func27, Try.ntmps27
    go_wp2_with fail
    refine rmeant_any.mono ?_
    rintro e w1 ⟨rfl, hE1⟩
    have B0 := Lib.hid (hE1.blk K0.out)
    have B1 := Lib.hid (hE1.blk K1.out)
    have b2 := hE1.blk K2.out
    have hE := hEE.trans hE1
    clear K0 K1 K2 hEE hE1
    have p0 := cell_of_row w1 w.heap.size 0 _ _ _ B0.out
    have p1 := cell_of_row w1 w.heap.size 1 _ _ _ B0.out
    have p2 := cell_of_row w1 w.heap.size 2 _ _ _ B0.out
    have p3 := cell_of_row w1 w.heap.size 3 _ _ _ B0.out
    have p4 := cell_of_row w1 w.heap.size 4 _ _ _ B0.out
    simp at p0 p1 p2 p3 p4
    have q0 := cell_of_row w1 (w.heap.size + 1) 0 _ _ _ B1.out
    have q1 := cell_of_row w1 (w.heap.size + 1) 1 _ _ _ B1.out
    have q2 := cell_of_row w1 (w.heap.size + 1) 2 _ _ _ B1.out
    have q3 := cell_of_row w1 (w.heap.size + 1) 3 _ _ _ B1.out
    have q4 := cell_of_row w1 (w.heap.size + 1) 4 _ _ _ B1.out
    simp at q0 q1 q2 q3 q4
    rcases hcs with h1 | ⟨h1, h2⟩ | ⟨h1, h2, h3⟩ | ⟨h1, h2, h3, h4⟩ | ⟨h1, h2, h3, h4, h5⟩ | ⟨h1, h2, h3, h4, h5, h6⟩
    all_goals
      rw [h1]
      clear h1
      go_wp2_with (with_reducible refine wpList_store_at 26 (.tmp 6) (.tmp 51) (w.heap.size + 1 + 1) _ rfl rfl 26 _ b2 ?_ rfl ?_ (fun w4 hb hg => ?_); (· kernel_rfl); (· simp [Value.oneCell']))
      refine bodyPost_ret (results_cell_tmp' rfl _ _ _ _ _ _ _ rfl hb Try.underlying26 rfl (by kernel_rfl)) rfl ⟨_, by rw [HQ.out]; rfl, by rw [HQ.out]; exact PgO.zero _ _, ext_only hE hg (by omega)⟩
  have HQ := Lib.hid (show joinB p q sep = ({ p with items := rowB p q sep }, true) by unfold joinB; rw [if_pos hok])
  obtain ⟨h1, h2, h3, h4⟩ := hok
  obtain ⟨m1, m2, m3⟩ : meantB p.kind = true ∧ (p.kind != q.kind) = false ∧ (p.level != q.level) = false := by
    unfold neighB at h1
    simp only [Bool.and_eq_true, beq_iff_eq] at h1
    exact ⟨h1.1, by simp [h1.2.1], by simp [h1.2.2]⟩
  have d1 : decide ((p.items.length : Int) < 1) = false := by simp; omega
  have d2 : decide ((q.items.length : Int) < 1) = false := by simp; omega
  have d3 : decide ((8 : Int) < (p.items.length : Int) + (q.items.length : Int)) = false := by simp; omega
  have i1 : (1 : Int) ≤ p.items.length := by omega
  have i2 : (1 : Int) ≤ q.items.length := by omega
  have i3 : (p.items.length : Int) + (q.items.length : Int) ≤ 8 := by omega
  clear h1
  go_enter Try.func27, Try.ntmps27
  go_wp2_with fail
  refine rmeant_any.mono ?_
  rintro e w1 ⟨rfl, hE1⟩
  have hP0 := hE1.blk K0.out
  have hQ0 := hE1.blk K1.out
  have hZ0 := hE1.blk K2.out
  have hE0 := hEE.trans hE1
  have B0 := Lib.hid hP0
  have B1 := Lib.hid hQ0
  clear K0 K1 K2 hEE hE1
  have p0 := cell_of_row w1 w.heap.size 0 _ _ _ B0.out
  have p1 := cell_of_row w1 w.heap.size 1 _ _ _ B0.out
  have p2 := cell_of_row w1 w.heap.size 2 _ _ _ B0.out
  have p3 := cell_of_row w1 w.heap.size 3 _ _ _ B0.out
  have p4 := cell_of_row w1 w.heap.size 4 _ _ _ B0.out
  simp at p0 p1 p2 p3 p4
  have q0 := cell_of_row w1 (w.heap.size + 1) 0 _ _ _ B1.out
  have q1 := cell_of_row w1 (w.heap.size + 1) 1 _ _ _ B1.out
  have q2 := cell_of_row w1 (w.heap.size + 1) 2 _ _ _ B1.out
  have q3 := cell_of_row w1 (w.heap.size + 1) 3 _ _ _ B1.out
  have q4 := cell_of_row w1 (w.heap.size + 1) 4 _ _ _ B1.out
  simp at q0 q1 q2 q3 q4
  rw [m1]
  go_wp2
  clear p0 p1 p2 p3 p4 q0 q1 q2 q3 q4 B0 B1 m1 m2 m3 d1 d2 d3
  go_loopw [8, 9] (fun u i wr => ∃ k : Nat, k ≤ p.items.length ∧ i = .int .i64 k ∧ RowS (w.heap.size + 3) w wr u (p.items.take k) ∧ Ext w wr ∧ wr.heap[w.heap.size]? = some (.cells #[.int .i64 p.kind, .int .i64 p.level, .slice iA p.items.length ic, .slice dA p.data.length dc, .int .i64 p.next] 26) ∧ wr.heap[w.heap.size + 1]? = some (.cells #[.int .i64 q.kind, .int .i64 q.level, .slice jA q.items.length jc, .slice cA q.data.length cc, .int .i64 q.next] 26) ∧ wr.heap[w.heap.size + 1 + 1]? = some (.cells #[.int .i64 0, .int .i64 0, .slice none 0 0, .slice none 0 0, .int .i64 0] 26)) (fun _ i _ => p.items.length - (intOf i).toNat)
  case atStart => exact ⟨0, Nat.zero_le _, rfl, by simpa using RowS.nil _ _ _, hE0, hP0, hQ0, hZ0⟩
  case round =>
    clear hP0 hQ0 hZ0 hE0
    obtain ⟨k, hkl, rfl, hrs, hE, hP, hQb, hZ⟩ := hrel
    have hp2 := cell_of_row wr w.heap.size 2 _ _ _ hP
    simp at hp2
    by_cases hlt : k < p.items.length
    · obtain ⟨rA, rc, ps, rfl, hrow, heach⟩ := hrs.ex
      have hx : p.items[k]? = some p.items[k] := List.getElem?_eq_getElem (by omega)
      generalize p.items[k]'(by omega) = y at hx
      obtain ⟨b, o, rfl, hcx⟩ := hi.rd (by omega)
      obtain ⟨yA, yc, zA, zc, x0, x1, x2, x3, xk, xv⟩ := hcx _ y hx
      replace x0 := hE.cell x0
      replace x1 := hE.cell x1
      replace x2 := hE.cell x2
      replace x3 := hE.cell x3
      have j1 : (k : Int) < p.items.length := by omega
      have HS := Lib.hid (show p.items.take (k + 1) = p.items.take k ++ [y] from take_at hx)
      have hdl : (p.items.take k).length ≤ k := by simp; omega
      clear hx hcx hlt hrs
      generalize hdn : p.items.take k = done at hrow heach HS hdl
      clear hdn
      have hrow1 := RowI.ext hrow (ext_alloc wr (.cells #[.slice yA y.key.length yc, .slice zA y.val.length zc, .int .i64 y.ch, .int .i64 y.sz] 51))
      have hP1 := (ext_alloc wr (.cells #[.slice yA y.key.length yc, .slice zA y.val.length zc, .int .i64 y.ch, .int .i64 y.sz] 51)).blk hP
      have hQb1 := (ext_alloc wr (.cells #[.slice yA y.key.length yc, .slice zA y.val.length zc, .int .i64 y.ch, .int .i64 y.sz] 51)).blk hQb
      have hZ1 := (ext_alloc wr (.cells #[.slice yA y.key.length yc, .slice zA y.val.length zc, .int .i64 y.ch, .int .i64 y.sz] 51)).blk hZ
      have hE1 := hE.trans (ext_alloc wr (.cells #[.slice yA y.key.length yc, .slice zA y.val.length zc, .int .i64 y.ch, .int .i64 y.sz] 51))
      have hpl := heach.length
      have hsw := (Array.getElem?_eq_some_iff.1 hZ).1
      clear hP hQb hZ
      go_wp2_with (at_builtin; refine wpList_append_own _ rfl _ _ 23 rfl (w.heap.size + 3) 51 i0 _ 4 64 Try.underlying23 hii hz0 hz1 hz2 rfl (by decide) _ _ _ rfl hrow1 ⟨wr.heap.size, 0, none⟩ 1 1 [.slice yA y.key.length yc, .slice zA y.val.length zc, .int .i64 y.ch, .int .i64 y.sz] rfl rfl (news4 _ _ _ _ _ _ _) (by simp [Value.oneCell']) (by simp [maxLen]; omega) (by omega) (by simp; omega) ?_; intro v' w2 hown2 hgrow2 _; obtain ⟨A5, c5, rfl, hrow5⟩ := RowI.push hpl (x := y) (kv := .slice yA y.key.length yc) (vv := .slice zA y.val.length zc) rfl hown2; have hX2 := Exc.of_grown (D := fun q o => w.heap.size + 3 ≤ q) hgrow2 (fun g o hg ho => RowI.ge hrow1 hg); have hP2 := hX2.blk hP1 (by omega); have hQ2 := hX2.blk hQb1 (by omega); have hZ2 := hX2.blk hZ1 (by omega))
      go_wp2
      go_roundw
      case rel => exact ⟨k + 1, by omega, by rw [Int.natCast_succ], by rw [HS.out]; exact RowS.push heach hrow5 xk xv, hX2.to_ext hE1 (fun k _ h => by omega), hP2, hQ2, hZ2⟩
      case measure => simp [intOf]; omega
    obtain rfl : k = p.items.length := by omega
    rw [List.take_length] at hrs
    have hrt := hrs.toT
    clear hlt hkl hrs
    obtain ⟨rA, rc, ps, rfl, hrow, heach⟩ := hrt.ex
    clear hrow heach ps
    go_wp2
    go_loopw [8, 10] (fun u i wr => ∃ m : Nat, m ≤ q.items.length ∧ i = .int .i64 m ∧ RowT (w.heap.size + 3) w wr u (p.items ++ tlB p.kind sep (q.items.take m)) ∧ Ext w wr ∧ wr.heap[w.heap.size]? = some (.cells #[.int .i64 p.kind, .int .i64 p.level, .slice iA p.items.length ic, .slice dA p.data.length dc, .int .i64 p.next] 26) ∧ wr.heap[w.heap.size + 1]? = some (.cells #[.int .i64 q.kind, .int .i64 q.level, .slice jA q.items.length jc, .slice cA q.data.length cc, .int .i64 q.next] 26) ∧ wr.heap[w.heap.size + 1 + 1]? = some (.cells #[.int .i64 0, .int .i64 0, .slice none 0 0, .slice none 0 0, .int .i64 0] 26)) (fun _ i _ => q.items.length - (intOf i).toNat)
    case atStart => exact ⟨0, Nat.zero_le _, rfl, by rw [List.take_zero, tlB_nil, List.append_nil]; exact hrt, hE, hP, hQb, hZ⟩
    case round =>
      clear hP hQb hZ hE hrt hp2
      obtain ⟨m, hml, rfl, hrs, hE, hP, hQb, hZ⟩ := hrel
      have hq2 := cell_of_row wr (w.heap.size + 1) 2 _ _ _ hQb
      simp at hq2
      have hp0 := cell_of_row wr w.heap.size 0 _ _ _ hP
      simp at hp0
      by_cases hlt : m < q.items.length
      rotate_left
      · obtain rfl : m = q.items.length := by omega
        rw [List.take_length, ← rowB_tl] at hrs
        have hrl := rowB_length p q sep
        clear hlt hml
        obtain ⟨rA, rc, ps, rfl, _, _⟩ := hrs.ex
        obtain ⟨hnl, hits⟩ := hrs.its hE (by omega)
        have HP := Lib.hid hP
        have HN := Lib.hid hnl
        have p1 := cell_of_row wr w.heap.size 1 _ _ _ HP.out
        have p2 := cell_of_row wr w.heap.size 2 _ _ _ HP.out
        have p3 := cell_of_row wr w.heap.size 3 _ _ _ HP.out
        have p4 := cell_of_row wr w.heap.size 4 _ _ _ HP.out
        simp at p1 p2 p3 p4
        clear hrs hP hQb hrl hnl
        generalize hdn : rowB p q sep = done at hits HN
        have HDN := Lib.hid hdn
        clear hdn
        go_wp2_with fail
        refine (rwith_any (hv.ext hE) hits rfl).mono ?_
        rintro e w3 ⟨v, rfl, hO, hE1⟩
        have hZ1 := hE1.blk hZ
        have hEE := hE.trans hE1
        have hws := (Array.getElem?_eq_some_iff.1 hZ).1
        have HO := Lib.hid (hO.mono (B' := w.heap.size + 3) (by omega))
        obtain ⟨oA, oc, oD, od, ops, rfl, _⟩ := hO.ex
        clear hO hE1 hits hZ hp0 hq2 p1 p2 p3 p4
        go_wp2_with (refine wpList_store_at 26 (.tmp 6) (.tmp 100) (w.heap.size + 1 + 1) _ rfl rfl 26 _ hZ1 ?_ rfl ?_ (fun w4 hb hg => ?_); (· kernel_rfl); (· simp [Value.oneCell']))
        refine bodyPost_ret (results_cell_tmp' rfl _ _ _ _ _ _ _ rfl hb Try.underlying26 rfl (by kernel_rfl)) rfl ⟨_, by rw [HQ.out, HDN.out]; rfl, ?_, ext_only hEE hg (by omega)⟩
        rw [HQ.out, HDN.out]
        exact (HO.out.only hg (by omega)).mono (by omega)
      obtain ⟨rA, rc, ps, rfl, hrow, heach⟩ := hrs.ex
      have hx : q.items[m]? = some q.items[m] := List.getElem?_eq_getElem (by omega)
      generalize q.items[m]'(by omega) = y at hx
      obtain ⟨b, o, rfl, hcx⟩ := hj.rd (by omega)
      obtain ⟨yA, yc, zA, zc, x0, x1, x2, x3, xk, xv⟩ := hcx _ y hx
      have j1 : (m : Int) < q.items.length := by omega
      have hsw := (Array.getElem?_eq_some_iff.1 hZ).1
      have hsl := hs.len
      have hdl : (p.items ++ tlB p.kind sep (q.items.take m)).length ≤ p.items.length + m := by simp [tlB_length]; omega
      by_cases hfk : m = 0 ∧ p.kind = 2
      · have ck : ((m : Int) == 0) = true := by simp [hfk.1]
        have kk : (p.kind == 2) = true := by simp [hfk.2]
        have HS := Lib.hid (show p.items ++ tlB p.kind sep (q.items.take (m + 1)) = p.items ++ tlB p.kind sep (q.items.take m) ++ [y.keyed sep] by
          obtain ⟨rfl, h2⟩ := hfk
          rw [h2, tlB_first hx, List.take_zero, tlB_nil, List.append_nil])
        rw [hfk.1, Nat.zero_mul, Nat.add_zero] at x0 x1 x2 x3
        replace x0 := hE.cell x0
        replace x1 := hE.cell x1
        replace x2 := hE.cell x2
        replace x3 := hE.cell x3
        have j2 : (0 : Int) < q.items.length := by omega
        have j3 : 0 < q.items.length := by omega
        clear hx hcx hlt hrs hfk
        generalize hdn : p.items ++ tlB p.kind sep (q.items.take m) = done at hrow heach HS hdl
        clear hdn
        go_wp2_with fail
        refine (rkeyed_any (x := y) ⟨yA, yc, zA, zc, rfl, xk.ext hE, xv.ext hE⟩ (hs.ext hE) rfl).mono ?_
        rintro e w5 ⟨kA, kc, vA, vc, rfl, ok, ov, _, hE5⟩
        have hrow1 := (RowI.ext hrow hE5).ext (ext_alloc w5 (.cells #[.slice kA sep.length kc, .slice vA y.val.length vc, .int .i64 y.ch, .int .i64 y.sz] 51))
        have heach1 : Each (KeyAt (w.heap.size + 3) w (w5.alloc (.cells #[.slice kA sep.length kc, .slice vA y.val.length vc, .int .i64 y.ch, .int .i64 y.sz] 51))) ps done := heach.mono fun v bs h => h.exc (Exc.of_ext (D := ItBlk 0) (hE5.trans (ext_alloc w5 (.cells #[.slice kA sep.length kc, .slice vA y.val.length vc, .int .i64 y.ch, .int .i64 y.sz] 51))))
        have hkk : KeyAt (w.heap.size + 3) w (w5.alloc (.cells #[.slice kA sep.length kc, .slice vA y.val.length vc, .int .i64 y.ch, .int .i64 y.sz] 51)) (.slice kA (y.keyed sep).key.length kc) (y.keyed sep).key := ⟨kA, kc, rfl, .inr ⟨(ok.mono (by omega)).ext (ext_alloc w5 (.cells #[.slice kA sep.length kc, .slice vA y.val.length vc, .int .i64 y.ch, .int .i64 y.sz] 51)), hsl⟩⟩
        have hvv : KeyAt (w.heap.size + 3) w (w5.alloc (.cells #[.slice kA sep.length kc, .slice vA y.val.length vc, .int .i64 y.ch, .int .i64 y.sz] 51)) (.slice vA (y.keyed sep).val.length vc) (y.keyed sep).val := ⟨vA, vc, rfl, .inr ⟨(ov.mono (by omega)).ext (ext_alloc w5 (.cells #[.slice kA sep.length kc, .slice vA y.val.length vc, .int .i64 y.ch, .int .i64 y.sz] 51)), xv.len⟩⟩
        have hP1 := (ext_alloc w5 (.cells #[.slice kA sep.length kc, .slice vA y.val.length vc, .int .i64 y.ch, .int .i64 y.sz] 51)).blk (hE5.blk hP)
        have hQb1 := (ext_alloc w5 (.cells #[.slice kA sep.length kc, .slice vA y.val.length vc, .int .i64 y.ch, .int .i64 y.sz] 51)).blk (hE5.blk hQb)
        have hZ1 := (ext_alloc w5 (.cells #[.slice kA sep.length kc, .slice vA y.val.length vc, .int .i64 y.ch, .int .i64 y.sz] 51)).blk (hE5.blk hZ)
        have hE1 := (hE.trans hE5).trans (ext_alloc w5 (.cells #[.slice kA sep.length kc, .slice vA y.val.length vc, .int .i64 y.ch, .int .i64 y.sz] 51))
        have hpl := heach.length
        have hsw5 := hE5.size
        clear hP hQb hZ hp0 hq2 ok ov hE5
        go_wp2_with (at_builtin; refine wpList_append_own _ rfl _ _ 23 rfl (w.heap.size + 3) 51 i0 _ 4 64 Try.underlying23 hii hz0 hz1 hz2 rfl (by decide) _ _ _ rfl hrow1 ⟨w5.heap.size, 0, none⟩ 1 1 [.slice kA sep.length kc, .slice vA y.val.length vc, .int .i64 y.ch, .int .i64 y.sz] rfl rfl (news4 _ _ _ _ _ _ _) (by simp [Value.oneCell']) (by simp [maxLen]; omega) (by omega) (by simp; omega) ?_; intro v' w2 hown2 hgrow2 _; obtain ⟨A5, c5, rfl, hrow5⟩ := RowI.push hpl (x := y.keyed sep) (kv := .slice kA sep.length kc) (vv := .slice vA y.val.length vc) rfl hown2; have hX2 := Exc.of_grown (D := ItBlk (w.heap.size + 3)) hgrow2 (fun g o hg ho => RowI.blk hrow1 hg ho); have hP2 := hX2.blk hP1 (ItBlk.notLt (by omega)); have hQ2 := hX2.blk hQb1 (ItBlk.notLt (by omega)); have hZ2 := hX2.blk hZ1 (ItBlk.notLt (by omega)))
        go_wp2
        go_roundw
        case rel => exact ⟨m + 1, by omega, by rw [Int.natCast_succ], by rw [HS.out]; exact RowT.push heach1 hX2 hrow5 hkk hvv, hX2.to_ext hE1 (fun k _ h => by have := h.1; omega), hP2, hQ2, hZ2⟩
        case measure => simp [intOf]; omega
      have HS := Lib.hid (show p.items ++ tlB p.kind sep (q.items.take (m + 1)) = p.items ++ tlB p.kind sep (q.items.take m) ++ [y] by
        rw [tlB_step hx (by omega), List.append_assoc])
      replace x0 := hE.cell x0
      replace x1 := hE.cell x1
      replace x2 := hE.cell x2
      replace x3 := hE.cell x3
      have hcs : ((m : Int) == 0) = false ∨ (((m : Int) == 0) = true ∧ (p.kind == 2) = false) := by
        by_cases h0 : m = 0
        · exact .inr ⟨by simp [h0], by simpa using fun h => hfk ⟨h0, h⟩⟩
        · exact .inl (by simpa using h0)
      clear hx hcx hlt hrs hfk
      generalize hdn : p.items ++ tlB p.kind sep (q.items.take m) = done at hrow heach HS hdl
      clear hdn
      have hrow1 := RowI.ext hrow (ext_alloc wr (.cells #[.slice yA y.key.length yc, .slice zA y.val.length zc, .int .i64 y.ch, .int .i64 y.sz] 51))
      have heach1 : Each (KeyAt (w.heap.size + 3) w (wr.alloc (.cells #[.slice yA y.key.length yc, .slice zA y.val.length zc, .int .i64 y.ch, .int .i64 y.sz] 51))) ps done := heach.mono fun v bs h => h.exc (Exc.of_ext (D := ItBlk 0) (ext_alloc wr (.cells #[.slice yA y.key.length yc, .slice zA y.val.length zc, .int .i64 y.ch, .int .i64 y.sz] 51)))
      have hkk : KeyAt (w.heap.size + 3) w (wr.alloc (.cells #[.slice yA y.key.length yc, .slice zA y.val.length zc, .int .i64 y.ch, .int .i64 y.sz] 51)) (.slice yA y.key.length yc) y.key := ⟨yA, yc, rfl, .inl xk⟩
      have hvv : KeyAt (w.heap.size + 3) w (wr.alloc (.cells #[.slice yA y.key.length yc, .slice zA y.val.length zc, .int .i64 y.ch, .int .i64 y.sz] 51)) (.slice zA y.val.length zc) y.val := ⟨zA, zc, rfl, .inl xv⟩
      have hP1 := (ext_alloc wr (.cells #[.slice yA y.key.length yc, .slice zA y.val.length zc, .int .i64 y.ch, .int .i64 y.sz] 51)).blk hP
      have hQb1 := (ext_alloc wr (.cells #[.slice yA y.key.length yc, .slice zA y.val.length zc, .int .i64 y.ch, .int .i64 y.sz] 51)).blk hQb
      have hZ1 := (ext_alloc wr (.cells #[.slice yA y.key.length yc, .slice zA y.val.length zc, .int .i64 y.ch, .int .i64 y.sz] 51)).blk hZ
      have hE1 := hE.trans (ext_alloc wr (.cells #[.slice yA y.key.length yc, .slice zA y.val.length zc, .int .i64 y.ch, .int .i64 y.sz] 51))
      have hpl := heach.length
      clear hP hQb hZ
      rcases hcs with ck | ⟨ck, kk⟩
      all_goals
        go_wp2_with (at_builtin; refine wpList_append_own _ rfl _ _ 23 rfl (w.heap.size + 3) 51 i0 _ 4 64 Try.underlying23 hii hz0 hz1 hz2 rfl (by decide) _ _ _ rfl hrow1 ⟨wr.heap.size, 0, none⟩ 1 1 [.slice yA y.key.length yc, .slice zA y.val.length zc, .int .i64 y.ch, .int .i64 y.sz] rfl rfl (news4 _ _ _ _ _ _ _) (by simp [Value.oneCell']) (by simp [maxLen]; omega) (by omega) (by simp; omega) ?_; intro v' w2 hown2 hgrow2 _; obtain ⟨A5, c5, rfl, hrow5⟩ := RowI.push hpl (x := y) (kv := .slice yA y.key.length yc) (vv := .slice zA y.val.length zc) rfl hown2; have hX2 := Exc.of_grown (D := ItBlk (w.heap.size + 3)) hgrow2 (fun g o hg ho => RowI.blk hrow1 hg ho); have hP2 := hX2.blk hP1 (ItBlk.notLt (by omega)); have hQ2 := hX2.blk hQb1 (ItBlk.notLt (by omega)); have hZ2 := hX2.blk hZ1 (ItBlk.notLt (by omega)))
        go_wp2
        go_roundw
        case rel => exact ⟨m + 1, by omega, by rw [Int.natCast_succ], by rw [HS.out]; exact RowT.push heach1 hX2 hrow5 hkk hvv, hX2.to_ext hE1 (fun k _ h => by have := h.1; omega), hP2, hQ2, hZ2⟩
        case measure => simp [intOf]; omega
end Go.Proofs.Ytjjbckdiojleeaa
