/- Contracts of node.Insert, Replace, Remove. No condition but that what comes in lies in memory. -/
import Derived.Test.YtjjbckdiojleeaaNwith
namespace Go.Proofs.Ytjjbckdiojleeaa
set_option linter.unusedVariables false
open Go.RowKit Go.Proofs
theorem heap_alloc_at (w : World) (o : Obj) (g : Nat) (h : g = w.heap.size) : (w.alloc o).heap[g]? = some o := by subst h; exact heap_alloc_new w o
theorem results_cell_tmp' {P : Program} {fn : Func} {p u : Tmp} {ty : TypeId} (h : fn.results = #[.cell p ty, .tmp u]) (tmps : Array Value) (w : World) (g : Nat) (t : TypeId) (cs : Array Value) (fr : Nat × Nat) (d : TypeDesc)
    (hp : tmps.getD p undef = .pointer (some ⟨g, 0, none⟩)) (hg : w.heap[g]? = some (.cells cs t fr))
    (hu : P.underlying ty = some d) (hd : (match d with | .struct _ | .array _ _ => true | _ => false) = true) (hi : (P.info? ty).map (·.size) = some cs.size) :
    (results fn tmps).run P w = .ok (.tuple #[.agg cs, tmps.getD u undef]) w := by
  have e1 : tmps[p]?.getD undef = .pointer (some ⟨g, 0, none⟩) := by simpa using hp
  simp [results, h, e1, asAddr, Sem.run_bind, Result.andThen, run_loadVar_row w g t ty cs fr d hg hu hd hi]
def insB (p : Pg) (a : Int) (x : It) : Pg × Bool := if 0 ≤ a ∧ a ≤ p.items.length ∧ p.items.length < 8 then ({ p with items := p.items.take a.toNat ++ [x] ++ p.items.drop a.toNat }, true) else (Pg.zero, false)
def repB (p : Pg) (a : Int) (x : It) : Pg × Bool := if 0 ≤ a ∧ a < p.items.length then ({ p with items := p.items.take a.toNat ++ [x] ++ p.items.drop (a.toNat + 1) }, true) else (Pg.zero, false)
def remB (p : Pg) (a : Int) : Pg × Bool := if 0 ≤ a ∧ a < p.items.length then ({ p with items := p.items.take a.toNat ++ p.items.drop (a.toNat + 1) }, true) else (Pg.zero, false)
theorem PgO.only {B g : Nat} {w w' : World} {v : Value} {p : Pg} (h : PgO B w v p) (hg : w.grownBy w' (some g)) (hb : g < B) : PgO B w' v p :=
  h.exc (Exc.of_only (D := fun q _ => q = g) hg (fun _ _ => rfl)) (fun k cs h1 h2 => by omega) (fun k cs h1 h2 => by omega)
theorem Its.tail1 {w : World} {A : Option Addr} {c : Nat} {l : List It} (h : Its w A c l) (hl : 1 ≤ l.length) : Its w (A.map fun x => ⟨x.block, x.off + 4, none⟩) (c - 1) (l.drop 1) := by
  obtain ⟨b, o, rfl, _⟩ := h.rd (by omega)
  exact h.drop 1 hl
/-- A slice literal, laid. -/
def Built (t : TypeId) (C : Nat) (cs : Array Value) (v : Value) (w : World) : Prop := ∃ h, v = .slice (some ⟨h, 0, none⟩) cs.size cs.size ∧ C ≤ h ∧ w.heap[h]? = some (.cells cs t (0, 0))
theorem Built.lasts {D : Nat → Obj → Prop} {t : TypeId} {C : Nat} (hd : ∀ k o, D k o → k < C) (cs : Array Value) (v : Value) : Lasts (Exc D) (Built t C cs v) := fun w w' ⟨h, h1, h2, h3⟩ hx => ⟨h, h1, h2, hx.blk h3 (fun e => by have := hd _ _ e; omega)⟩
theorem PgO.lasts {D : Nat → Obj → Prop} {C : Nat} (hd : ∀ k o, D k o → k < C) (p : Pg) (v : Value) : Lasts (Exc D) fun w => PgO C w v p := fun w w' h hx => h.exc hx (fun k cs h1 h2 => by have := hd _ _ h2; omega) (fun k cs h1 h2 => by have := hd _ _ h2; omega)
/-- A slice literal of one struct, laid. -/
def Built1 (C : Nat) (cs : Array Value) (v : Value) (w : World) : Prop := ∃ h, v = .slice (some ⟨h, 0, none⟩) 1 1 ∧ C ≤ h ∧ w.heap[h]? = some (.cells cs 51 (0, 0))
theorem Built1.lasts {D : Nat → Obj → Prop} {C : Nat} (hd : ∀ k o, D k o → k < C) (cs : Array Value) (v : Value) : Lasts (Exc D) (Built1 C cs v) := fun w w' ⟨h, h1, h2, h3⟩ hx => ⟨h, h1, h2, hx.blk h3 (fun e => by have := hd _ _ e; omega)⟩
/-- A page stored into the box of a result. -/
def StoredIn (g : Nat) (v : Value) (w : World) : Prop := ∃ cs, v = .agg cs ∧ w.heap[g]? = some (.cells cs 26 (0, 0))
theorem StoredIn.ext {g : Nat} {v : Value} {w w' : World} (h : StoredIn g v w) (he : Ext w w') : StoredIn g v w' := by
  obtain ⟨cs, h1, h2⟩ := h
  exact ⟨cs, h1, he.blk h2⟩
set_option maxHeartbeats 1000000 in
theorem ninsert_any {v u : Value} {p : Pg} {x : It} {a : Int} {w : World} (hv : PgV w v p) (hu : ItV w u x) :
    Calls Try.prog 41 #[v, .int .i64 a, u] w fun e w' => ∃ v', e = .returned (.tuple #[v', .bool (insB p a x).2]) ∧ PgO w.heap.size w' v' (insB p a x).1 ∧ Ext w w' := by
  obtain ⟨iA, ic, dA, dc, rfl, hi, hd⟩ := hv.ex
  obtain ⟨kA, kc, vA, vc, rfl, hk, hvl⟩ := hu.ex
  clear hu
  have hil := hi.len
  by_cases hok : 0 ≤ a ∧ a ≤ p.items.length ∧ p.items.length < 8
  rotate_left
  · have HQ := Lib.hid (show insB p a x = (Pg.zero, false) by unfold insB; rw [if_neg hok])
    go_enter Try.func41, Try.ntmps41
    have hcs : a < 0 ∨ (0 ≤ a ∧ (p.items.length : Int) < a) ∨ (0 ≤ a ∧ a ≤ (p.items.length : Int) ∧ (8 : Int) ≤ p.items.length) := by omega
    clear hok
    rcases hcs with h1 | ⟨h1, h2⟩ | ⟨h1, h2, h3⟩
    all_goals
      go_wp2_with (refine wpList_store_box rfl 26 _ _ rfl (w.heap.size + 1 + 1) _ rfl rfl 26 _ (heap_alloc_at _ _ _ (by simp)) (by kernel_rfl) rfl (by simp [Value.oneCell']) (fun w4 hb hg => ?_))
      refine bodyPost_ret (results_cell_tmp' rfl _ _ _ _ _ _ _ rfl hb Try.underlying26 rfl (by kernel_rfl)) rfl ⟨_, by rw [HQ.out]; rfl, by rw [HQ.out]; exact PgO.zero _ _, ext_only (((ext_alloc _ _).trans (ext_alloc _ _)).trans (ext_alloc _ _)) hg (by omega)⟩
  obtain ⟨h0, h1, h2⟩ := hok
  obtain ⟨n, rfl⟩ : ∃ n : Nat, a = n := ⟨a.toNat, by omega⟩
  have hn : n ≤ p.items.length := by omega
  have HQ := Lib.hid (show insB p n x = ({ p with items := p.items.take n ++ [x] ++ p.items.drop n }, true) by unfold insB; rw [if_pos ⟨h0, h1, h2⟩]; simp)
  have HT := Lib.hid (show (p.items.take n).length = n by simp; omega)
  have HD := Lib.hid (show (p.items.drop n).length = p.items.length - n by simp)
  go_enter Try.func41, Try.ntmps41
  go_wp2_with fail
  refine (parts_any (hi.ext (((ext_alloc _ _).trans (ext_alloc _ _)).trans (ext_alloc _ _))) rfl hn).mono ?_
  rintro e w1 ⟨_, rfl, hT0, hE⟩
  obtain ⟨A', c', rfl, hT⟩ := hT0 w hi
  clear hT0
  have b0 := hE.blk ((ext_alloc _ (.cells #[.int .i64 0, .int .i64 0, .slice none 0 0, .slice none 0 0, .int .i64 0] 26)).blk (heap_alloc2_old w (.cells #[.int .i64 p.kind, .int .i64 p.level, .slice iA p.items.length ic, .slice dA p.data.length dc, .int .i64 p.next] 26) (.cells #[.slice kA x.key.length kc, .slice vA x.val.length vc, .int .i64 x.ch, .int .i64 x.sz] 51)))
  have b1 := hE.blk ((ext_alloc _ (.cells #[.int .i64 0, .int .i64 0, .slice none 0 0, .slice none 0 0, .int .i64 0] 26)).blk (heap_alloc2_new w (.cells #[.int .i64 p.kind, .int .i64 p.level, .slice iA p.items.length ic, .slice dA p.data.length dc, .int .i64 p.next] 26) (.cells #[.slice kA x.key.length kc, .slice vA x.val.length vc, .int .i64 x.ch, .int .i64 x.sz] 51)))
  have b2 := hE.blk (heap_alloc_at ((w.alloc (.cells #[.int .i64 p.kind, .int .i64 p.level, .slice iA p.items.length ic, .slice dA p.data.length dc, .int .i64 p.next] 26)).alloc (.cells #[.slice kA x.key.length kc, .slice vA x.val.length vc, .int .i64 x.ch, .int .i64 x.sz] 51)) (.cells #[.int .i64 0, .int .i64 0, .slice none 0 0, .slice none 0 0, .int .i64 0] 26) (w.heap.size + 1 + 1) (by simp))
  replace hE := (((ext_alloc w (.cells #[.int .i64 p.kind, .int .i64 p.level, .slice iA p.items.length ic, .slice dA p.data.length dc, .int .i64 p.next] 26)).trans (ext_alloc _ (.cells #[.slice kA x.key.length kc, .slice vA x.val.length vc, .int .i64 x.ch, .int .i64 x.sz] 51))).trans (ext_alloc _ (.cells #[.int .i64 0, .int .i64 0, .slice none 0 0, .slice none 0 0, .int .i64 0] 26))).trans hE
  have p0 := cell_of_row w1 w.heap.size 0 _ _ _ b0
  have p1 := cell_of_row w1 w.heap.size 1 _ _ _ b0
  have p2 := cell_of_row w1 w.heap.size 2 _ _ _ b0
  have p3 := cell_of_row w1 w.heap.size 3 _ _ _ b0
  have p4 := cell_of_row w1 w.heap.size 4 _ _ _ b0
  have q0 := cell_of_row w1 (w.heap.size + 1) 0 _ _ _ b1
  have q1 := cell_of_row w1 (w.heap.size + 1) 1 _ _ _ b1
  have q2 := cell_of_row w1 (w.heap.size + 1) 2 _ _ _ b1
  have q3 := cell_of_row w1 (w.heap.size + 1) 3 _ _ _ b1
  simp at p0 p1 p2 p3 p4 q0 q1 q2 q3
  clear b0 b1
  have HT1 := Lib.hid hT
  clear hT
  go_wp2_with fail
  have hlen : (joined [p.items.take n, [x], p.items.drop n]).length ≤ 2199023255552 := by simp [joined]; omega
  have hEE := (ext_alloc w1 (.cells #[.slice kA x.key.length kc, .slice vA x.val.length vc, .int .i64 x.ch, .int .i64 x.sz] 51)).trans (ext_alloc _ (.cells #[.slice iA n n, .slice (some ⟨w1.heap.size, 0, none⟩) 1 1, .slice A' (p.items.length - n) c'] 23))
  refine (with_any (qs := [p.items.take n, [x], p.items.drop n]) (hv.ext (hE.trans hEE)) ?_ rfl (Nat.le_refl _) (by simp) hlen).mono ?_
  · intro _
    refine ⟨_, _, rfl, fun j q hj => ?_⟩
    rw [cell_of_row _ _ _ _ _ _ (heap_alloc2_new _ _ _)]
    rcases j with _ | _ | _ | j
    · simp only [List.getElem?_cons_zero, Option.some.injEq] at hj
      subst hj
      exact ⟨_, _, _, rfl, HT.out.symm, (hi.ext (hE.trans hEE)).take n n (by rw [HT.out]; exact Nat.le_refl _) (by omega)⟩
    · simp only [List.getElem?_cons_zero, List.getElem?_cons_succ, Option.some.injEq] at hj
      subst hj
      refine ⟨_, _, _, rfl, rfl, ⟨fun _ => ⟨_, _, rfl, fun i y hy => ?_⟩, by simp, by simp, by decide⟩⟩
      have hi0 : i = 0 := by
        have := (List.getElem?_eq_some_iff.1 hy).1
        simp at this; omega
      subst hi0
      simp only [List.getElem?_cons_zero, Option.some.injEq] at hy
      subst hy
      have hb := heap_alloc2_old w1 (.cells #[.slice kA x.key.length kc, .slice vA x.val.length vc, .int .i64 x.ch, .int .i64 x.sz] 51) (.cells #[.slice iA n n, .slice (some ⟨w1.heap.size, 0, none⟩) 1 1, .slice A' (p.items.length - n) c'] 23)
      exact ⟨kA, kc, vA, vc, cell_of_row _ _ _ _ _ _ hb, cell_of_row _ _ _ _ _ _ hb, cell_of_row _ _ _ _ _ _ hb, cell_of_row _ _ _ _ _ _ hb, hk.ext (hE.trans hEE), hvl.ext (hE.trans hEE)⟩
    · simp only [List.getElem?_cons_zero, List.getElem?_cons_succ, Option.some.injEq] at hj
      subst hj
      exact ⟨_, _, _, rfl, HD.out.symm, HT1.out.ext (hE.trans hEE)⟩
    · simp at hj
  rintro e w2 ⟨v', rfl, hO, hE2⟩
  obtain ⟨iA', ic', dA', dc', ps, rfl, ho1, ho2, ho3⟩ := hO.ex
  have HO := Lib.hid hO
  have b3 := (hEE.trans hE2).blk b2
  replace hE := hE.trans (hEE.trans hE2)
  have hbs := (Array.getElem?_eq_some_iff.1 b2).1
  have hww := hE.size
  clear hO ho1 ho2 ho3 b2
  go_wp2_with (refine wpList_store_box rfl 26 _ _ rfl (w.heap.size + 1 + 1) _ rfl rfl 26 _ b3 (by kernel_rfl) rfl (by simp [Value.oneCell']) (fun w4 hb hg => ?_))
  refine bodyPost_ret (results_cell_tmp' rfl _ _ _ _ _ _ _ rfl hb Try.underlying26 rfl (by kernel_rfl)) rfl ⟨_, by rw [HQ.out]; rfl, ?_, ext_only hE hg (by omega)⟩
  rw [HQ.out]
  have := (HO.out.only hg (by simp; omega)).mono (B' := w.heap.size) (by simp; omega)
  simpa [joined] using this
set_option maxHeartbeats 1000000 in
theorem nremove_any {v : Value} {p : Pg} {a : Int} {w : World} (hv : PgV w v p) :
    Calls Try.prog 43 #[v, .int .i64 a] w fun e w' => ∃ v', e = .returned (.tuple #[v', .bool (remB p a).2]) ∧ PgO w.heap.size w' v' (remB p a).1 ∧ Ext w w' := by
  obtain ⟨iA, ic, dA, dc, rfl, hi, hd⟩ := hv.ex
  have hil := hi.len
  by_cases hok : 0 ≤ a ∧ a < p.items.length
  rotate_left
  · have HQ := Lib.hid (show remB p a = (Pg.zero, false) by unfold remB; rw [if_neg hok])
    go_enter Try.func43, Try.ntmps43
    have hcs : a < 0 ∨ (0 ≤ a ∧ (p.items.length : Int) ≤ a) := by omega
    clear hok
    rcases hcs with h1 | ⟨h1, h2⟩
    all_goals
      go_wp2_with (refine wpList_store_box rfl 26 _ _ rfl (w.heap.size + 1) _ rfl rfl 26 _ (heap_alloc_at _ _ _ (by simp)) (by kernel_rfl) rfl (by simp [Value.oneCell']) (fun w4 hb hg => ?_))
      refine bodyPost_ret (results_cell_tmp' rfl _ _ _ _ _ _ _ rfl hb Try.underlying26 rfl (by kernel_rfl)) rfl ⟨_, by rw [HQ.out]; rfl, by rw [HQ.out]; exact PgO.zero _ _, ext_only ((ext_alloc _ _).trans (ext_alloc _ _)) hg (by omega)⟩
  obtain ⟨h0, h1⟩ := hok
  obtain ⟨n, rfl⟩ : ∃ n : Nat, a = n := ⟨a.toNat, by omega⟩
  have hn : n < p.items.length := by omega
  have HQ := Lib.hid (show remB p n = ({ p with items := p.items.take n ++ p.items.drop (n + 1) }, true) by unfold remB; rw [if_pos ⟨h0, h1⟩]; simp)
  have HT := Lib.hid (show (p.items.take n).length = n by simp; omega)
  have HD := Lib.hid (show (p.items.drop n).length = p.items.length - n by simp)
  have HD1 := Lib.hid (show (p.items.drop n).drop 1 = p.items.drop (n + 1) by simp)
  go_enter Try.func43, Try.ntmps43
  go_wp2_with fail
  refine (parts_any (hi.ext ((ext_alloc _ _).trans (ext_alloc _ _))) rfl (by omega)).mono ?_
  rintro e w1 ⟨_, rfl, hT0, hE⟩
  obtain ⟨A', c', rfl, hT⟩ := hT0 w hi
  clear hT0
  have b0 := hE.blk (heap_alloc2_old w (.cells #[.int .i64 p.kind, .int .i64 p.level, .slice iA p.items.length ic, .slice dA p.data.length dc, .int .i64 p.next] 26) (.cells #[.int .i64 0, .int .i64 0, .slice none 0 0, .slice none 0 0, .int .i64 0] 26))
  have b2 := hE.blk (heap_alloc2_new w (.cells #[.int .i64 p.kind, .int .i64 p.level, .slice iA p.items.length ic, .slice dA p.data.length dc, .int .i64 p.next] 26) (.cells #[.int .i64 0, .int .i64 0, .slice none 0 0, .slice none 0 0, .int .i64 0] 26))
  replace hE := ((ext_alloc w (.cells #[.int .i64 p.kind, .int .i64 p.level, .slice iA p.items.length ic, .slice dA p.data.length dc, .int .i64 p.next] 26)).trans (ext_alloc _ (.cells #[.int .i64 0, .int .i64 0, .slice none 0 0, .slice none 0 0, .int .i64 0] 26))).trans hE
  have hw1 : w.heap.size + 2 ≤ w1.heap.size := (Array.getElem?_eq_some_iff.1 b2).1
  have hTc := hT.cap
  have hTl := hT.le
  have hTd : Tail w (p.items.drop n) 1 (if c' = 1 then .slice A' (p.items.length - n - 1) 0 else .slice (A'.map fun x => ⟨x.block, x.off + 4, none⟩) (p.items.length - n - 1) (c' - 1)) := by
    split
    · have := Its.tail0 (w := w) (A := A') (l := p.items.drop n) (at_ := 1) (by omega)
      rwa [HD.out] at this
    · exact ⟨_, _, by rw [HD.out], hT.tail1 (by rw [HD.out]; omega)⟩
  obtain ⟨A2, c2, hv2, hT2⟩ := hTd
  rw [HD.out] at hv2 hTl
  rw [HD1.out] at hT2
  have HT2 := Lib.hid hT2
  have HV2 := Lib.hid hv2
  clear hT hT2 hv2
  have i1 : (1 : Int) ≤ ((p.items.length - n : Nat) : Int) := by omega
  have i2 : ((p.items.length - n : Nat) : Int) ≤ (c' : Int) := by omega
  have i3 : (1 : Int) ≤ (c' : Int) := by omega
  have i4 : 1 ≤ p.items.length - n := by omega
  have i5 : p.items.length - n ≤ c' := by omega
  have i6 : 1 ≤ c' := by omega
  have HB0 := Lib.hid b0
  clear b0
  by_cases hc1 : c' = 1
  all_goals
    have e := HV2.out
    simp only [hc1, if_true, if_false, Value.slice.injEq] at e
    obtain ⟨rfl, _, rfl⟩ := e
    clear HV2
    go_wp2_with fail
    refine wp_region_rg (Exc fun k _ => k = w.heap.size + 1) (rel_exc _) (fun w' => w'.heap[w.heap.size + 1]? = some (.cells #[.int .i64 0, .int .i64 0, .slice none 0 0, .slice none 0 0, .int .i64 0] 26)) [0, 1, 2, 3, 4, 5, 6, 7] (fun i => match i with
      | 4 => some fun V => Built 23 w1.heap.size #[V 1, V 3]
      | 5 => some fun V v w' => PgO w1.heap.size w' v { p with items := p.items.take n ++ p.items.drop (n + 1) }
      | _ => none) (fun i => match i with
      | 6 => some fun V _ => StoredIn (w.heap.size + 1) (V 5)
      | _ => none) (fun _ => false) (by kernel_rfl) (by kernel_rfl) (fun _ _ h he => he.blk h) b2 (fun W N hW hF0 hN => ?_)
    have hEW : Exc (fun k _ => k = w.heap.size + 1) w1 W := Exc.of_ext hW
    have e0 : ∀ w', Exc (fun k _ => k = w.heap.size + 1) w1 w' → w'.cell? ⟨w.heap.size, 0, none⟩ = some (.int .i64 p.kind) := fun w' h => cell_of_row _ _ _ _ _ _ (h.blk HB0.out (by omega))
    have e1 : ∀ w', Exc (fun k _ => k = w.heap.size + 1) w1 w' → w'.cell? ⟨w.heap.size, 1, none⟩ = some (.int .i64 p.level) := fun w' h => cell_of_row _ _ _ _ _ _ (h.blk HB0.out (by omega))
    have e2 : ∀ w', Exc (fun k _ => k = w.heap.size + 1) w1 w' → w'.cell? ⟨w.heap.size, 2, none⟩ = some (.slice iA p.items.length ic) := fun w' h => cell_of_row _ _ _ _ _ _ (h.blk HB0.out (by omega))
    have e3 : ∀ w', Exc (fun k _ => k = w.heap.size + 1) w1 w' → w'.cell? ⟨w.heap.size, 3, none⟩ = some (.slice dA p.data.length dc) := fun w' h => cell_of_row _ _ _ _ _ _ (h.blk HB0.out (by omega))
    have e4 : ∀ w', Exc (fun k _ => k = w.heap.size + 1) w1 w' → w'.cell? ⟨w.heap.size, 4, none⟩ = some (.int .i64 p.next) := fun w' h => cell_of_row _ _ _ _ _ _ (h.blk HB0.out (by omega))
    have hX : ∀ w', Exc (fun k _ => k = w.heap.size + 1) W w' → Ext w w' := fun w' h => (Exc.trans hEW h).to_ext hE (fun k _ hk => by omega)
    repeat (first | (apply wpR_one; (case ho => (simp only [List.getElem?_toArray, List.getElem?_cons_succ, List.getElem?_cons_zero]; try exact rfl)); (case hw => rfl); (case hl => rfl); (case hsp => rfl); (case he => rfl); (case hv => (intro w' hw'; (try (have hw2 := Ext.trans hEW hw')); (try (have hw3 := Exc.trans hEW hw')); (try (have hw4 := Exk.trans hEW hw')); (try (have hw5 := Mrk.trans hEW hw')); go_simp; exact rfl)); (case hw0 => (first | exact Below.refl _ _ | exact Exc.of_ext (Below.refl _ _) | exact Exk.of_ext (Below.refl _ _) | exact Mrk.of_ext (Below.refl _ _))); simp only [Act.put, List.setIfInBounds_toArray, List.set_cons_succ, List.set_cons_zero]) | (apply wpR_early; (case ho => (simp only [List.getElem?_toArray, List.getElem?_cons_succ, List.getElem?_cons_zero]; try exact rfl)); (case hw => rfl); (case hl => rfl); (case hsp => rfl); (case he => rfl); (case hv => (intro w' hw'; (try have hw2 := Ext.trans hEW hw'); go_simp; exact rfl)); simp only [Act.put, List.setIfInBounds_toArray, List.set_cons_succ, List.set_cons_zero]) | (apply wpR_pass; (case ho => (simp only [List.getElem?_toArray, List.getElem?_cons_succ, List.getElem?_cons_zero]; try exact rfl)); (case hw => rfl); (case hl => rfl); simp only [Act.put, List.setIfInBounds_toArray, List.set_cons_succ, List.set_cons_zero]))
    have hD : ∀ (k : Nat) (o : Obj), k = w.heap.size + 1 → k < w1.heap.size := fun k _ hk => by omega
    refine wpR_new (by ((simp only [List.getElem?_toArray, List.getElem?_cons_succ, List.getElem?_cons_zero]; try exact rfl))) _ rfl rfl rfl (fun V v => Built.lasts hD _ _) (fun V V' h => by simp only [h 1 (by kernel_rfl), h 3 (by kernel_rfl)]) (fun w' hw' hK => ?_) (fun v hv => ?_)
    · have hXs := (hEW.trans hw').size
      unfold opAt
      go_simp
      exact upAt_value ⟨ext_alloc _ _, _, rfl, hXs, heap_alloc_new _ _⟩
    obtain ⟨h, rfl⟩ : ∃ h, v = .slice (some ⟨h, 0, none⟩) 2 2 := by
      obtain ⟨_, _, _, h, e, _⟩ := hv
      exact ⟨h, e⟩
    clear hv
    simp only [Act.put, List.setIfInBounds_toArray, List.set_cons_succ, List.set_cons_zero]
    repeat (first | (apply wpR_one; (case ho => (simp only [List.getElem?_toArray, List.getElem?_cons_succ, List.getElem?_cons_zero]; try exact rfl)); (case hw => rfl); (case hl => rfl); (case hsp => rfl); (case he => rfl); (case hv => (intro w' hw'; (try (have hw2 := Ext.trans hEW hw')); (try (have hw3 := Exc.trans hEW hw')); (try (have hw4 := Exk.trans hEW hw')); (try (have hw5 := Mrk.trans hEW hw')); go_simp; exact rfl)); (case hw0 => (first | exact Below.refl _ _ | exact Exc.of_ext (Below.refl _ _) | exact Exk.of_ext (Below.refl _ _) | exact Mrk.of_ext (Below.refl _ _))); simp only [Act.put, List.setIfInBounds_toArray, List.set_cons_succ, List.set_cons_zero]) | (apply wpR_early; (case ho => (simp only [List.getElem?_toArray, List.getElem?_cons_succ, List.getElem?_cons_zero]; try exact rfl)); (case hw => rfl); (case hl => rfl); (case hsp => rfl); (case he => rfl); (case hv => (intro w' hw'; (try have hw2 := Ext.trans hEW hw'); go_simp; exact rfl)); simp only [Act.put, List.setIfInBounds_toArray, List.set_cons_succ, List.set_cons_zero]) | (apply wpR_pass; (case ho => (simp only [List.getElem?_toArray, List.getElem?_cons_succ, List.getElem?_cons_zero]; try exact rfl)); (case hw => rfl); (case hl => rfl); simp only [Act.put, List.setIfInBounds_toArray, List.set_cons_succ, List.set_cons_zero]))
    refine wpR_new (by ((simp only [List.getElem?_toArray, List.getElem?_cons_succ, List.getElem?_cons_zero]; try exact rfl))) _ rfl rfl rfl (fun V v => PgO.lasts hD _ _) (fun V V' h => rfl) (fun w' hw' hK => ?_) (fun v hv => ?_)
    · have HK4 := Lib.hid (hK 4 (by kernel_rfl)).2
      clear hK
      unfold opAt; go_simp; refine upAt_enter ?_
      obtain ⟨h', e4, _, hbk⟩ := HK4.out
      injection e4 with e4
      injection e4 with e4
      injection e4 with e4
      subst e4
      have HBK := Lib.hid hbk
      have hEX := hX w' hw'
      clear hbk
      have hpc : Pcs w' (some ⟨h, 0, none⟩) [p.items.take n, p.items.drop (n + 1)] := by
        intro _
        refine ⟨_, _, rfl, fun j q hj => ?_⟩
        rw [cell_of_row _ _ _ _ _ _ HBK.out]
        rcases j with _ | _ | j
        · simp only [List.getElem?_cons_zero, Option.some.injEq] at hj
          subst hj
          exact ⟨_, _, _, rfl, HT.out.symm, (hi.ext hEX).take n n (by rw [HT.out]; exact Nat.le_refl _) (by omega)⟩
        · simp only [List.getElem?_cons_zero, List.getElem?_cons_succ, Option.some.injEq] at hj
          subst hj
          exact ⟨_, _, _, rfl, by rw [List.length_drop]; omega, HT2.out.ext hEX⟩
        · simp at hj
      refine (with_any (hv.ext hEX) hpc rfl (Nat.le_refl _) (by simp) (by simp [joined]; omega)).mono ?_
      rintro e w2 ⟨v', rfl, hO, hE2⟩
      exact ⟨_, rfl, hE2, by simpa [joined] using hO.mono (hEW.trans hw').size⟩
    obtain ⟨iA', dA', ic', dc', rfl⟩ : ∃ iA' dA' ic' dc', v = .agg #[.int .i64 p.kind, .int .i64 p.level, .slice iA' (p.items.take n ++ p.items.drop (n + 1)).length ic', .slice dA' p.data.length dc', .int .i64 p.next] := by
      obtain ⟨_, _, _, hO⟩ := hv
      obtain ⟨iA', ic', dA', dc', ps, e, _⟩ := hO.ex
      exact ⟨_, _, _, _, e⟩
    clear hv
    simp only [Act.put, List.setIfInBounds_toArray, List.set_cons_succ, List.set_cons_zero]
    repeat (first | (apply wpR_one; (case ho => (simp only [List.getElem?_toArray, List.getElem?_cons_succ, List.getElem?_cons_zero]; try exact rfl)); (case hw => rfl); (case hl => rfl); (case hsp => rfl); (case he => rfl); (case hv => (intro w' hw'; (try (have hw2 := Ext.trans hEW hw')); (try (have hw3 := Exc.trans hEW hw')); (try (have hw4 := Exk.trans hEW hw')); (try (have hw5 := Mrk.trans hEW hw')); go_simp; exact rfl)); (case hw0 => (first | exact Below.refl _ _ | exact Exc.of_ext (Below.refl _ _) | exact Exk.of_ext (Below.refl _ _) | exact Mrk.of_ext (Below.refl _ _))); simp only [Act.put, List.setIfInBounds_toArray, List.set_cons_succ, List.set_cons_zero]) | (apply wpR_early; (case ho => (simp only [List.getElem?_toArray, List.getElem?_cons_succ, List.getElem?_cons_zero]; try exact rfl)); (case hw => rfl); (case hl => rfl); (case hsp => rfl); (case he => rfl); (case hv => (intro w' hw'; (try have hw2 := Ext.trans hEW hw'); go_simp; exact rfl)); simp only [Act.put, List.setIfInBounds_toArray, List.set_cons_succ, List.set_cons_zero]) | (apply wpR_pass; (case ho => (simp only [List.getElem?_toArray, List.getElem?_cons_succ, List.getElem?_cons_zero]; try exact rfl)); (case hw => rfl); (case hl => rfl); simp only [Act.put, List.setIfInBounds_toArray, List.set_cons_succ, List.set_cons_zero]))
    refine wpR_late (by ((simp only [List.getElem?_toArray, List.getElem?_cons_succ, List.getElem?_cons_zero]; try exact rfl))) _ rfl rfl (fun V v w' w2 h he => h.ext he) (fun V V' h => by simp only [h 5 (by kernel_rfl)]) (fun w' hw' hK hF => ?_) (fun v hv => ?_)
    · refine opAt_list rfl #[] (fun Q hQ => ?_)
      refine wpList_store_box rfl 26 _ _ rfl (w.heap.size + 1) _ rfl rfl 26 _ hF (by kernel_rfl) rfl (by simp [Value.oneCell']) (fun w2 hb hg => ?_)
      exact hQ _ _ ⟨Exc.of_only hg (fun _ _ => rfl), _, rfl, hb⟩
    clear hv
    simp only [Act.put, List.setIfInBounds_toArray, List.set_cons_succ, List.set_cons_zero]
    repeat (first | (apply wpR_one; (case ho => (simp only [List.getElem?_toArray, List.getElem?_cons_succ, List.getElem?_cons_zero]; try exact rfl)); (case hw => rfl); (case hl => rfl); (case hsp => rfl); (case he => rfl); (case hv => (intro w' hw'; (try (have hw2 := Ext.trans hEW hw')); (try (have hw3 := Exc.trans hEW hw')); (try (have hw4 := Exk.trans hEW hw')); (try (have hw5 := Mrk.trans hEW hw')); go_simp; exact rfl)); (case hw0 => (first | exact Below.refl _ _ | exact Exc.of_ext (Below.refl _ _) | exact Exk.of_ext (Below.refl _ _) | exact Mrk.of_ext (Below.refl _ _))); simp only [Act.put, List.setIfInBounds_toArray, List.set_cons_succ, List.set_cons_zero]) | (apply wpR_early; (case ho => (simp only [List.getElem?_toArray, List.getElem?_cons_succ, List.getElem?_cons_zero]; try exact rfl)); (case hw => rfl); (case hl => rfl); (case hsp => rfl); (case he => rfl); (case hv => (intro w' hw'; (try have hw2 := Ext.trans hEW hw'); go_simp; exact rfl)); simp only [Act.put, List.setIfInBounds_toArray, List.set_cons_succ, List.set_cons_zero]) | (apply wpR_pass; (case ho => (simp only [List.getElem?_toArray, List.getElem?_cons_succ, List.getElem?_cons_zero]; try exact rfl)); (case hw => rfl); (case hl => rfl); simp only [Act.put, List.setIfInBounds_toArray, List.set_cons_succ, List.set_cons_zero]))
    apply wpR_nil
    apply hN
    intro w5 hE' hK hF
    have hO : PgO w1.heap.size w5 _ { p with items := p.items.take n ++ p.items.drop (n + 1) } := (hK 5).2
    obtain ⟨cs, hcs, hb⟩ := hF
    injection hcs with hcs
    subst hcs
    have hE5 := hX w5 hE'
    have HO := Lib.hid hO
    clear hK hN hO e0 e1 e2 e3 e4 hX hD hE' hEW
    go_wp2
    exact bodyPost_ret (results_cell_tmp' rfl _ _ _ _ _ _ _ rfl hb Try.underlying26 rfl (by kernel_rfl)) rfl ⟨_, by rw [HQ.out]; rfl, by rw [HQ.out]; exact HO.out.mono (by omega), hE5⟩
set_option maxHeartbeats 1000000 in
theorem nreplace_any {v u : Value} {p : Pg} {x : It} {a : Int} {w : World} (hv : PgV w v p) (hu : ItV w u x) :
    Calls Try.prog 42 #[v, .int .i64 a, u] w fun e w' => ∃ v', e = .returned (.tuple #[v', .bool (repB p a x).2]) ∧ PgO w.heap.size w' v' (repB p a x).1 ∧ Ext w w' := by
  obtain ⟨iA, ic, dA, dc, rfl, hi, hd⟩ := hv.ex
  obtain ⟨kA, kc, vA, vc, rfl, hk, hvl⟩ := hu.ex
  clear hu
  have hil := hi.len
  by_cases hok : 0 ≤ a ∧ a < p.items.length
  rotate_left
  · have HQ := Lib.hid (show repB p a x = (Pg.zero, false) by unfold repB; rw [if_neg hok])
    go_enter Try.func42, Try.ntmps42
    have hcs : a < 0 ∨ (0 ≤ a ∧ (p.items.length : Int) ≤ a) := by omega
    clear hok
    rcases hcs with h1 | ⟨h1, h2⟩
    all_goals
      go_wp2_with (refine wpList_store_box rfl 26 _ _ rfl (w.heap.size + 1 + 1) _ rfl rfl 26 _ (heap_alloc_at _ _ _ (by simp)) (by kernel_rfl) rfl (by simp [Value.oneCell']) (fun w4 hb hg => ?_))
      refine bodyPost_ret (results_cell_tmp' rfl _ _ _ _ _ _ _ rfl hb Try.underlying26 rfl (by kernel_rfl)) rfl ⟨_, by rw [HQ.out]; rfl, by rw [HQ.out]; exact PgO.zero _ _, ext_only (((ext_alloc _ _).trans (ext_alloc _ _)).trans (ext_alloc _ _)) hg (by omega)⟩
  obtain ⟨h0, h1⟩ := hok
  obtain ⟨n, rfl⟩ : ∃ n : Nat, a = n := ⟨a.toNat, by omega⟩
  have hn : n < p.items.length := by omega
  have HQ := Lib.hid (show repB p n x = ({ p with items := p.items.take n ++ [x] ++ p.items.drop (n + 1) }, true) by unfold repB; rw [if_pos ⟨h0, h1⟩]; simp)
  have HT := Lib.hid (show (p.items.take n).length = n by simp; omega)
  have HD := Lib.hid (show (p.items.drop n).length = p.items.length - n by simp)
  have HD1 := Lib.hid (show (p.items.drop n).drop 1 = p.items.drop (n + 1) by simp)
  go_enter Try.func42, Try.ntmps42
  go_wp2_with fail
  refine (parts_any (hi.ext (((ext_alloc _ _).trans (ext_alloc _ _)).trans (ext_alloc _ _))) rfl (by omega)).mono ?_
  rintro e w1 ⟨_, rfl, hT0, hE⟩
  obtain ⟨A', c', rfl, hT⟩ := hT0 w hi
  clear hT0
  have b0 := hE.blk ((ext_alloc _ (.cells #[.int .i64 0, .int .i64 0, .slice none 0 0, .slice none 0 0, .int .i64 0] 26)).blk (heap_alloc2_old w (.cells #[.int .i64 p.kind, .int .i64 p.level, .slice iA p.items.length ic, .slice dA p.data.length dc, .int .i64 p.next] 26) (.cells #[.slice kA x.key.length kc, .slice vA x.val.length vc, .int .i64 x.ch, .int .i64 x.sz] 51)))
  have b1 := hE.blk ((ext_alloc _ (.cells #[.int .i64 0, .int .i64 0, .slice none 0 0, .slice none 0 0, .int .i64 0] 26)).blk (heap_alloc2_new w (.cells #[.int .i64 p.kind, .int .i64 p.level, .slice iA p.items.length ic, .slice dA p.data.length dc, .int .i64 p.next] 26) (.cells #[.slice kA x.key.length kc, .slice vA x.val.length vc, .int .i64 x.ch, .int .i64 x.sz] 51)))
  have b2 := hE.blk (heap_alloc_at ((w.alloc (.cells #[.int .i64 p.kind, .int .i64 p.level, .slice iA p.items.length ic, .slice dA p.data.length dc, .int .i64 p.next] 26)).alloc (.cells #[.slice kA x.key.length kc, .slice vA x.val.length vc, .int .i64 x.ch, .int .i64 x.sz] 51)) (.cells #[.int .i64 0, .int .i64 0, .slice none 0 0, .slice none 0 0, .int .i64 0] 26) (w.heap.size + 1 + 1) (by simp))
  replace hE := (((ext_alloc w (.cells #[.int .i64 p.kind, .int .i64 p.level, .slice iA p.items.length ic, .slice dA p.data.length dc, .int .i64 p.next] 26)).trans (ext_alloc _ (.cells #[.slice kA x.key.length kc, .slice vA x.val.length vc, .int .i64 x.ch, .int .i64 x.sz] 51))).trans (ext_alloc _ (.cells #[.int .i64 0, .int .i64 0, .slice none 0 0, .slice none 0 0, .int .i64 0] 26))).trans hE
  have hw1 : w.heap.size + 3 ≤ w1.heap.size := (Array.getElem?_eq_some_iff.1 b2).1
  have hTc := hT.cap
  have hTl := hT.le
  have hTd : Tail w (p.items.drop n) 1 (if c' = 1 then .slice A' (p.items.length - n - 1) 0 else .slice (A'.map fun x => ⟨x.block, x.off + 4, none⟩) (p.items.length - n - 1) (c' - 1)) := by
    split
    · have := Its.tail0 (w := w) (A := A') (l := p.items.drop n) (at_ := 1) (by omega)
      rwa [HD.out] at this
    · exact ⟨_, _, by rw [HD.out], hT.tail1 (by rw [HD.out]; omega)⟩
  obtain ⟨A2, c2, hv2, hT2⟩ := hTd
  rw [HD.out] at hv2 hTl
  rw [HD1.out] at hT2
  have HT2 := Lib.hid hT2
  have HV2 := Lib.hid hv2
  clear hT hT2 hv2
  have i1 : (1 : Int) ≤ ((p.items.length - n : Nat) : Int) := by omega
  have i2 : ((p.items.length - n : Nat) : Int) ≤ (c' : Int) := by omega
  have i3 : (1 : Int) ≤ (c' : Int) := by omega
  have i4 : 1 ≤ p.items.length - n := by omega
  have i5 : p.items.length - n ≤ c' := by omega
  have i6 : 1 ≤ c' := by omega
  have HB0 := Lib.hid b0
  have HB1 := Lib.hid b1
  clear b0 b1
  by_cases hc1 : c' = 1
  all_goals
    have e := HV2.out
    simp only [hc1, if_true, if_false, Value.slice.injEq] at e
    obtain ⟨rfl, _, rfl⟩ := e
    clear HV2
    go_wp2_with fail
    refine wp_region_rg (Exc fun k _ => k = w.heap.size + 1 + 1) (rel_exc _) (fun w' => w'.heap[w.heap.size + 1 + 1]? = some (.cells #[.int .i64 0, .int .i64 0, .slice none 0 0, .slice none 0 0, .int .i64 0] 26)) [0, 1, 2, 3, 4, 5, 6, 7, 8, 9] (fun i => match i with
      | 3 => some fun _ => Built1 w1.heap.size #[.slice kA x.key.length kc, .slice vA x.val.length vc, .int .i64 x.ch, .int .i64 x.sz]
      | 6 => some fun V => Built 23 w1.heap.size #[V 1, V 3, V 5]
      | 7 => some fun V v w' => PgO w1.heap.size w' v { p with items := p.items.take n ++ [x] ++ p.items.drop (n + 1) }
      | _ => none) (fun i => match i with
      | 8 => some fun V _ => StoredIn (w.heap.size + 1 + 1) (V 7)
      | _ => none) (fun _ => false) (by kernel_rfl) (by kernel_rfl) (fun _ _ h he => he.blk h) b2 (fun W N hW hF0 hN => ?_)
    have hEW : Exc (fun k _ => k = w.heap.size + 1 + 1) w1 W := Exc.of_ext hW
    have e0 : ∀ w', Exc (fun k _ => k = w.heap.size + 1 + 1) w1 w' → w'.cell? ⟨w.heap.size, 0, none⟩ = some (.int .i64 p.kind) := fun w' h => cell_of_row _ _ _ _ _ _ (h.blk HB0.out (by omega))
    have e1 : ∀ w', Exc (fun k _ => k = w.heap.size + 1 + 1) w1 w' → w'.cell? ⟨w.heap.size, 1, none⟩ = some (.int .i64 p.level) := fun w' h => cell_of_row _ _ _ _ _ _ (h.blk HB0.out (by omega))
    have e2 : ∀ w', Exc (fun k _ => k = w.heap.size + 1 + 1) w1 w' → w'.cell? ⟨w.heap.size, 2, none⟩ = some (.slice iA p.items.length ic) := fun w' h => cell_of_row _ _ _ _ _ _ (h.blk HB0.out (by omega))
    have e3 : ∀ w', Exc (fun k _ => k = w.heap.size + 1 + 1) w1 w' → w'.cell? ⟨w.heap.size, 3, none⟩ = some (.slice dA p.data.length dc) := fun w' h => cell_of_row _ _ _ _ _ _ (h.blk HB0.out (by omega))
    have e4 : ∀ w', Exc (fun k _ => k = w.heap.size + 1 + 1) w1 w' → w'.cell? ⟨w.heap.size, 4, none⟩ = some (.int .i64 p.next) := fun w' h => cell_of_row _ _ _ _ _ _ (h.blk HB0.out (by omega))
    have f0 : ∀ w', Exc (fun k _ => k = w.heap.size + 1 + 1) w1 w' → w'.cell? ⟨w.heap.size + 1, 0, none⟩ = some (.slice kA x.key.length kc) := fun w' h => cell_of_row _ _ _ _ _ _ (h.blk HB1.out (by omega))
    have f1 : ∀ w', Exc (fun k _ => k = w.heap.size + 1 + 1) w1 w' → w'.cell? ⟨w.heap.size + 1, 1, none⟩ = some (.slice vA x.val.length vc) := fun w' h => cell_of_row _ _ _ _ _ _ (h.blk HB1.out (by omega))
    have f2 : ∀ w', Exc (fun k _ => k = w.heap.size + 1 + 1) w1 w' → w'.cell? ⟨w.heap.size + 1, 2, none⟩ = some (.int .i64 x.ch) := fun w' h => cell_of_row _ _ _ _ _ _ (h.blk HB1.out (by omega))
    have f3 : ∀ w', Exc (fun k _ => k = w.heap.size + 1 + 1) w1 w' → w'.cell? ⟨w.heap.size + 1, 3, none⟩ = some (.int .i64 x.sz) := fun w' h => cell_of_row _ _ _ _ _ _ (h.blk HB1.out (by omega))
    have hX : ∀ w', Exc (fun k _ => k = w.heap.size + 1 + 1) W w' → Ext w w' := fun w' h => (Exc.trans hEW h).to_ext hE (fun k _ hk => by omega)
    repeat (first | (apply wpR_one; (case ho => (simp only [List.getElem?_toArray, List.getElem?_cons_succ, List.getElem?_cons_zero]; try exact rfl)); (case hw => rfl); (case hl => rfl); (case hsp => rfl); (case he => rfl); (case hv => (intro w' hw'; (try (have hw2 := Ext.trans hEW hw')); (try (have hw3 := Exc.trans hEW hw')); (try (have hw4 := Exk.trans hEW hw')); (try (have hw5 := Mrk.trans hEW hw')); go_simp; exact rfl)); (case hw0 => (first | exact Below.refl _ _ | exact Exc.of_ext (Below.refl _ _) | exact Exk.of_ext (Below.refl _ _) | exact Mrk.of_ext (Below.refl _ _))); simp only [Act.put, List.setIfInBounds_toArray, List.set_cons_succ, List.set_cons_zero]) | (apply wpR_early; (case ho => (simp only [List.getElem?_toArray, List.getElem?_cons_succ, List.getElem?_cons_zero]; try exact rfl)); (case hw => rfl); (case hl => rfl); (case hsp => rfl); (case he => rfl); (case hv => (intro w' hw'; (try have hw2 := Ext.trans hEW hw'); go_simp; exact rfl)); simp only [Act.put, List.setIfInBounds_toArray, List.set_cons_succ, List.set_cons_zero]) | (apply wpR_pass; (case ho => (simp only [List.getElem?_toArray, List.getElem?_cons_succ, List.getElem?_cons_zero]; try exact rfl)); (case hw => rfl); (case hl => rfl); simp only [Act.put, List.setIfInBounds_toArray, List.set_cons_succ, List.set_cons_zero]))
    have hD : ∀ (k : Nat) (o : Obj), k = w.heap.size + 1 + 1 → k < w1.heap.size := fun k _ hk => by omega
    refine wpR_new (by ((simp only [List.getElem?_toArray, List.getElem?_cons_succ, List.getElem?_cons_zero]; try exact rfl))) _ rfl rfl rfl (fun V v => Built1.lasts hD _ _) (fun V V' h => rfl) (fun w' hw' hK => ?_) (fun v hv => ?_)
    · have hXs := (hEW.trans hw').size
      unfold opAt
      go_simp
      exact upAt_value ⟨ext_alloc _ _, _, rfl, hXs, heap_alloc_new _ _⟩
    obtain ⟨h1', rfl⟩ : ∃ h, v = .slice (some ⟨h, 0, none⟩) 1 1 := by
      obtain ⟨_, _, _, h, e, _⟩ := hv
      exact ⟨h, e⟩
    clear hv
    simp only [Act.put, List.setIfInBounds_toArray, List.set_cons_succ, List.set_cons_zero]
    repeat (first | (apply wpR_one; (case ho => (simp only [List.getElem?_toArray, List.getElem?_cons_succ, List.getElem?_cons_zero]; try exact rfl)); (case hw => rfl); (case hl => rfl); (case hsp => rfl); (case he => rfl); (case hv => (intro w' hw'; (try (have hw2 := Ext.trans hEW hw')); (try (have hw3 := Exc.trans hEW hw')); (try (have hw4 := Exk.trans hEW hw')); (try (have hw5 := Mrk.trans hEW hw')); go_simp; exact rfl)); (case hw0 => (first | exact Below.refl _ _ | exact Exc.of_ext (Below.refl _ _) | exact Exk.of_ext (Below.refl _ _) | exact Mrk.of_ext (Below.refl _ _))); simp only [Act.put, List.setIfInBounds_toArray, List.set_cons_succ, List.set_cons_zero]) | (apply wpR_early; (case ho => (simp only [List.getElem?_toArray, List.getElem?_cons_succ, List.getElem?_cons_zero]; try exact rfl)); (case hw => rfl); (case hl => rfl); (case hsp => rfl); (case he => rfl); (case hv => (intro w' hw'; (try have hw2 := Ext.trans hEW hw'); go_simp; exact rfl)); simp only [Act.put, List.setIfInBounds_toArray, List.set_cons_succ, List.set_cons_zero]) | (apply wpR_pass; (case ho => (simp only [List.getElem?_toArray, List.getElem?_cons_succ, List.getElem?_cons_zero]; try exact rfl)); (case hw => rfl); (case hl => rfl); simp only [Act.put, List.setIfInBounds_toArray, List.set_cons_succ, List.set_cons_zero]))
    refine wpR_new (by ((simp only [List.getElem?_toArray, List.getElem?_cons_succ, List.getElem?_cons_zero]; try exact rfl))) _ rfl rfl rfl (fun V v => Built.lasts hD _ _) (fun V V' h => by simp only [h 1 (by kernel_rfl), h 3 (by kernel_rfl), h 5 (by kernel_rfl)]) (fun w' hw' hK => ?_) (fun v hv => ?_)
    · have hXs := (hEW.trans hw').size
      unfold opAt
      go_simp
      exact upAt_value ⟨ext_alloc _ _, _, rfl, hXs, heap_alloc_new _ _⟩
    obtain ⟨h, rfl⟩ : ∃ h, v = .slice (some ⟨h, 0, none⟩) 3 3 := by
      obtain ⟨_, _, _, h, e, _⟩ := hv
      exact ⟨h, e⟩
    clear hv
    simp only [Act.put, List.setIfInBounds_toArray, List.set_cons_succ, List.set_cons_zero]
    repeat (first | (apply wpR_one; (case ho => (simp only [List.getElem?_toArray, List.getElem?_cons_succ, List.getElem?_cons_zero]; try exact rfl)); (case hw => rfl); (case hl => rfl); (case hsp => rfl); (case he => rfl); (case hv => (intro w' hw'; (try (have hw2 := Ext.trans hEW hw')); (try (have hw3 := Exc.trans hEW hw')); (try (have hw4 := Exk.trans hEW hw')); (try (have hw5 := Mrk.trans hEW hw')); go_simp; exact rfl)); (case hw0 => (first | exact Below.refl _ _ | exact Exc.of_ext (Below.refl _ _) | exact Exk.of_ext (Below.refl _ _) | exact Mrk.of_ext (Below.refl _ _))); simp only [Act.put, List.setIfInBounds_toArray, List.set_cons_succ, List.set_cons_zero]) | (apply wpR_early; (case ho => (simp only [List.getElem?_toArray, List.getElem?_cons_succ, List.getElem?_cons_zero]; try exact rfl)); (case hw => rfl); (case hl => rfl); (case hsp => rfl); (case he => rfl); (case hv => (intro w' hw'; (try have hw2 := Ext.trans hEW hw'); go_simp; exact rfl)); simp only [Act.put, List.setIfInBounds_toArray, List.set_cons_succ, List.set_cons_zero]) | (apply wpR_pass; (case ho => (simp only [List.getElem?_toArray, List.getElem?_cons_succ, List.getElem?_cons_zero]; try exact rfl)); (case hw => rfl); (case hl => rfl); simp only [Act.put, List.setIfInBounds_toArray, List.set_cons_succ, List.set_cons_zero]))
    refine wpR_new (by ((simp only [List.getElem?_toArray, List.getElem?_cons_succ, List.getElem?_cons_zero]; try exact rfl))) _ rfl rfl rfl (fun V v => PgO.lasts hD _ _) (fun V V' h => rfl) (fun w' hw' hK => ?_) (fun v hv => ?_)
    · have HK4 := Lib.hid (hK 6 (by kernel_rfl)).2
      have HK3 := Lib.hid (hK 3 (by kernel_rfl)).2
      clear hK
      unfold opAt; go_simp; refine upAt_enter ?_
      obtain ⟨h', e4, _, hbk⟩ := HK4.out
      injection e4 with e4
      injection e4 with e4
      injection e4 with e4
      subst e4
      have HBK := Lib.hid hbk
      obtain ⟨h3, e3, _, hb3⟩ := HK3.out
      injection e3 with e3
      injection e3 with e3
      injection e3 with e3
      subst e3
      have HB3 := Lib.hid hb3
      clear hb3
      have hEX := hX w' hw'
      clear hbk
      have hpc : Pcs w' (some ⟨h, 0, none⟩) [p.items.take n, [x], p.items.drop (n + 1)] := by
        intro _
        refine ⟨_, _, rfl, fun j q hj => ?_⟩
        rw [cell_of_row _ _ _ _ _ _ HBK.out]
        rcases j with _ | _ | _ | j
        · simp only [List.getElem?_cons_zero, Option.some.injEq] at hj
          subst hj
          exact ⟨_, _, _, rfl, HT.out.symm, (hi.ext hEX).take n n (by rw [HT.out]; exact Nat.le_refl _) (by omega)⟩
        · simp only [List.getElem?_cons_zero, List.getElem?_cons_succ, Option.some.injEq] at hj
          subst hj
          refine ⟨_, _, _, rfl, rfl, ⟨fun _ => ⟨_, _, rfl, fun i y hy => ?_⟩, by simp, by simp, by decide⟩⟩
          have hi0 : i = 0 := by
            have := (List.getElem?_eq_some_iff.1 hy).1
            simp at this; omega
          subst hi0
          simp only [List.getElem?_cons_zero, Option.some.injEq] at hy
          subst hy
          exact ⟨kA, kc, vA, vc, cell_of_row _ _ _ _ _ _ HB3.out, cell_of_row _ _ _ _ _ _ HB3.out, cell_of_row _ _ _ _ _ _ HB3.out, cell_of_row _ _ _ _ _ _ HB3.out, hk.ext hEX, hvl.ext hEX⟩
        · simp only [List.getElem?_cons_zero, List.getElem?_cons_succ, Option.some.injEq] at hj
          subst hj
          exact ⟨_, _, _, rfl, by rw [List.length_drop]; omega, HT2.out.ext hEX⟩
        · simp at hj
      refine (with_any (hv.ext hEX) hpc rfl (Nat.le_refl _) (by simp) (by simp [joined]; omega)).mono ?_
      rintro e w2 ⟨v', rfl, hO, hE2⟩
      exact ⟨_, rfl, hE2, by simpa [joined] using hO.mono (hEW.trans hw').size⟩
    obtain ⟨iA', dA', ic', dc', rfl⟩ : ∃ iA' dA' ic' dc', v = .agg #[.int .i64 p.kind, .int .i64 p.level, .slice iA' (p.items.take n ++ [x] ++ p.items.drop (n + 1)).length ic', .slice dA' p.data.length dc', .int .i64 p.next] := by
      obtain ⟨_, _, _, hO⟩ := hv
      obtain ⟨iA', ic', dA', dc', ps, e, _⟩ := hO.ex
      exact ⟨_, _, _, _, e⟩
    clear hv
    simp only [Act.put, List.setIfInBounds_toArray, List.set_cons_succ, List.set_cons_zero]
    repeat (first | (apply wpR_one; (case ho => (simp only [List.getElem?_toArray, List.getElem?_cons_succ, List.getElem?_cons_zero]; try exact rfl)); (case hw => rfl); (case hl => rfl); (case hsp => rfl); (case he => rfl); (case hv => (intro w' hw'; (try (have hw2 := Ext.trans hEW hw')); (try (have hw3 := Exc.trans hEW hw')); (try (have hw4 := Exk.trans hEW hw')); (try (have hw5 := Mrk.trans hEW hw')); go_simp; exact rfl)); (case hw0 => (first | exact Below.refl _ _ | exact Exc.of_ext (Below.refl _ _) | exact Exk.of_ext (Below.refl _ _) | exact Mrk.of_ext (Below.refl _ _))); simp only [Act.put, List.setIfInBounds_toArray, List.set_cons_succ, List.set_cons_zero]) | (apply wpR_early; (case ho => (simp only [List.getElem?_toArray, List.getElem?_cons_succ, List.getElem?_cons_zero]; try exact rfl)); (case hw => rfl); (case hl => rfl); (case hsp => rfl); (case he => rfl); (case hv => (intro w' hw'; (try have hw2 := Ext.trans hEW hw'); go_simp; exact rfl)); simp only [Act.put, List.setIfInBounds_toArray, List.set_cons_succ, List.set_cons_zero]) | (apply wpR_pass; (case ho => (simp only [List.getElem?_toArray, List.getElem?_cons_succ, List.getElem?_cons_zero]; try exact rfl)); (case hw => rfl); (case hl => rfl); simp only [Act.put, List.setIfInBounds_toArray, List.set_cons_succ, List.set_cons_zero]))
    refine wpR_late (by ((simp only [List.getElem?_toArray, List.getElem?_cons_succ, List.getElem?_cons_zero]; try exact rfl))) _ rfl rfl (fun V v w' w2 h he => h.ext he) (fun V V' h => by simp only [h 7 (by kernel_rfl)]) (fun w' hw' hK hF => ?_) (fun v hv => ?_)
    · refine opAt_list rfl #[] (fun Q hQ => ?_)
      refine wpList_store_box rfl 26 _ _ rfl (w.heap.size + 1 + 1) _ rfl rfl 26 _ hF (by kernel_rfl) rfl (by simp [Value.oneCell']) (fun w2 hb hg => ?_)
      exact hQ _ _ ⟨Exc.of_only hg (fun _ _ => rfl), _, rfl, hb⟩
    clear hv
    simp only [Act.put, List.setIfInBounds_toArray, List.set_cons_succ, List.set_cons_zero]
    repeat (first | (apply wpR_one; (case ho => (simp only [List.getElem?_toArray, List.getElem?_cons_succ, List.getElem?_cons_zero]; try exact rfl)); (case hw => rfl); (case hl => rfl); (case hsp => rfl); (case he => rfl); (case hv => (intro w' hw'; (try (have hw2 := Ext.trans hEW hw')); (try (have hw3 := Exc.trans hEW hw')); (try (have hw4 := Exk.trans hEW hw')); (try (have hw5 := Mrk.trans hEW hw')); go_simp; exact rfl)); (case hw0 => (first | exact Below.refl _ _ | exact Exc.of_ext (Below.refl _ _) | exact Exk.of_ext (Below.refl _ _) | exact Mrk.of_ext (Below.refl _ _))); simp only [Act.put, List.setIfInBounds_toArray, List.set_cons_succ, List.set_cons_zero]) | (apply wpR_early; (case ho => (simp only [List.getElem?_toArray, List.getElem?_cons_succ, List.getElem?_cons_zero]; try exact rfl)); (case hw => rfl); (case hl => rfl); (case hsp => rfl); (case he => rfl); (case hv => (intro w' hw'; (try have hw2 := Ext.trans hEW hw'); go_simp; exact rfl)); simp only [Act.put, List.setIfInBounds_toArray, List.set_cons_succ, List.set_cons_zero]) | (apply wpR_pass; (case ho => (simp only [List.getElem?_toArray, List.getElem?_cons_succ, List.getElem?_cons_zero]; try exact rfl)); (case hw => rfl); (case hl => rfl); simp only [Act.put, List.setIfInBounds_toArray, List.set_cons_succ, List.set_cons_zero]))
    apply wpR_nil
    apply hN
    intro w5 hE' hK hF
    have hO : PgO w1.heap.size w5 _ { p with items := p.items.take n ++ [x] ++ p.items.drop (n + 1) } := (hK 7).2
    obtain ⟨cs, hcs, hb⟩ := hF
    injection hcs with hcs
    subst hcs
    have hE5 := hX w5 hE'
    have HO := Lib.hid hO
    clear hK hN hO e0 e1 e2 e3 e4 f0 f1 f2 f3 hX hD hE' hEW
    go_wp2
    exact bodyPost_ret (results_cell_tmp' rfl _ _ _ _ _ _ _ rfl hb Try.underlying26 rfl (by kernel_rfl)) rfl ⟨_, by rw [HQ.out]; rfl, by rw [HQ.out]; exact HO.out.mono (by omega), hE5⟩
end Go.Proofs.Ytjjbckdiojleeaa
