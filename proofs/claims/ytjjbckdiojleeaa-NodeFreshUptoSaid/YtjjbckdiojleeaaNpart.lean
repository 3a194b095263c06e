/- Contract of node.parted. No condition but that what comes in lies in memory. -/
import Derived.Test.YtjjbckdiojleeaaNjoin
import Derived.Test.YtjjbckdiojleeaaSpang
import Derived.IntWalk
namespace Go.Proofs.Ytjjbckdiojleeaa
set_option linter.unusedVariables false
open Go.RowKit Go.Proofs
theorem results_rrtt {P : Program} {fn : Func} {p q u v : Tmp} {ty tz : TypeId} (h : fn.results = #[.cell p ty, .cell q tz, .tmp u, .tmp v]) (tmps : Array Value) (w : World) (g g' : Nat) (t t' : TypeId) (cs cs' : Array Value) (fr fr' : Nat × Nat) (d d' : TypeDesc)
    (hp : tmps.getD p undef = .pointer (some ⟨g, 0, none⟩)) (hg : w.heap[g]? = some (.cells cs t fr))
    (hu : P.underlying ty = some d) (hd : (match d with | .struct _ | .array _ _ => true | _ => false) = true) (hi : (P.info? ty).map (·.size) = some cs.size)
    (hp' : tmps.getD q undef = .pointer (some ⟨g', 0, none⟩)) (hg' : w.heap[g']? = some (.cells cs' t' fr'))
    (hu' : P.underlying tz = some d') (hd' : (match d' with | .struct _ | .array _ _ => true | _ => false) = true) (hi' : (P.info? tz).map (·.size) = some cs'.size) :
    (results fn tmps).run P w = .ok (.tuple #[.agg cs, .agg cs', tmps.getD u undef, tmps.getD v undef]) w := by
  have e1 : tmps[p]?.getD undef = .pointer (some ⟨g, 0, none⟩) := by simpa using hp
  have e2 : tmps[q]?.getD undef = .pointer (some ⟨g', 0, none⟩) := by simpa using hp'
  simp [results, h, e1, e2, asAddr, Sem.run_bind, Result.andThen, run_loadVar_row w g t ty cs fr d hg hu hd hi, run_loadVar_row w g' t' tz cs' fr' d' hg' hu' hd' hi']
theorem calls_cut {P : Program} {f : FuncId} {args : Array Value} {w : World} {Q : Ending → World → Prop} (F : World → Prop) (hF : F w) (h : ∀ W, F W → Calls P f args W Q) : Calls P f args w Q := h w hF
theorem ptr_inj {g g' : Nat} (h : Value.pointer (some ⟨g, 0, none⟩) = Value.pointer (some ⟨g', 0, none⟩)) : g = g' := by
  injection h with h; injection h with h; injection h with h
theorem sl_inj {g g' a b c d : Nat} (h : Value.slice (some ⟨g, 0, none⟩) a b = Value.slice (some ⟨g', 0, none⟩) c d) : g = g' := by
  injection h with h; injection h with h; injection h with h
theorem pgv_inj {a b e a' b' e' : Value} {A D A' D' : Option Addr} {n c m d n' c' m' d' : Nat} (h : Value.agg #[a, b, .slice A n c, .slice D m d, e] = Value.agg #[a', b', .slice A' n' c', .slice D' m' d', e']) : A = A' ∧ c = c' ∧ D = D' ∧ d = d' := by
  simp only [Value.agg.injEq, Array.mk.injEq, List.cons.injEq, Value.slice.injEq] at h
  exact ⟨h.2.2.1.1, h.2.2.1.2.2, h.2.2.2.1.1, h.2.2.2.1.2.2⟩
/-- A row of items as two pages, the first of which has n. -/
def partB (l r : Pg) (row : List It) (n : Nat) : Option (Pg × Pg × List UInt8) :=
  if l.kind = 2 then some ({ l with items := row.take n }, { r with items := (row.drop n).modify 0 (·.keyed []) }, (row.getD n It.zero).key)
  else (betwB (row.getD (n - 1) It.zero).key (row.getD n It.zero).key).map fun s => ({ l with items := row.take n }, { r with items := row.drop n }, s)
def part1 (o : Option (Pg × Pg × List UInt8)) : Pg := match o with | some x => x.1 | none => Pg.zero
def part2 (o : Option (Pg × Pg × List UInt8)) : Pg := match o with | some x => x.2.1 | none => Pg.zero
def part3 (o : Option (Pg × Pg × List UInt8)) : List UInt8 := match o with | some x => x.2.2 | none => []
/-- A page's box in new memory. -/
def PgCell (C : Nat) (v : Value) (w : World) : Prop := ∃ g, v = .pointer (some ⟨g, 0, none⟩) ∧ C ≤ g ∧ ∃ cs, w.heap[g]? = some (.cells cs 26 (0, 0)) ∧ cs.size = 5
theorem PgCell.lasts {D : Nat → Obj → Prop} (C : Nat) (v : Value) : Lasts (Exk D) (PgCell C v) := fun w w' ⟨g, h1, h2, cs, h3, h4⟩ hx => by
  obtain ⟨cs', h5, h6⟩ := hx.keep g cs _ h3
  exact ⟨g, h1, h2, cs', h5, h6.trans h4⟩
/-- The page u stands in the box v. -/
def StoredAt (C : Nat) (u v : Value) (w : World) : Prop := ∃ g cs, v = .pointer (some ⟨g, 0, none⟩) ∧ C ≤ g ∧ u = .agg cs ∧ w.heap[g]? = some (.cells cs 26 (0, 0))
theorem StoredAt.ext {C : Nat} {u v : Value} {w w' : World} (h : StoredAt C u v w) (he : Ext w w') : StoredAt C u v w' := by
  obtain ⟨g, cs, h1, h2, h3, h4⟩ := h
  exact ⟨g, cs, h1, h2, h3, he.blk h4⟩
def Stored2 (C : Nat) (u v u' v' : Value) (w : World) : Prop := StoredAt C u v w ∧ StoredAt C u' v' w ∧ v ≠ v'
theorem PgO.lastsK {C : Nat} (p : Pg) (v : Value) : Lasts (Exk (PgBlk C)) fun w => PgO C w v p := fun w w' h hx => h.exc hx.x (fun k cs h1 => PgBlk.not8) (fun k cs h1 => PgBlk.notI)
theorem Built.lastsK {C : Nat} (cs : Array Value) (v : Value) : Lasts (Exk (PgBlk C)) (Built 23 C cs v) := fun w w' ⟨h, h1, h2, h3⟩ hx => ⟨h, h1, h2, hx.x.blk h3 (fun ⟨_, _, _, e⟩ => by injection e with _ e; exact absurd e (by decide))⟩
/-- The block of a page's row of items. -/
def rowBlk : Value → Option Nat
  | .agg cs => (cs.getD 2 undef).ownBlock
  | _ => none
def RowApart (u v : Value) : Prop := ∀ g, rowBlk u = some g → rowBlk v ≠ some g
theorem rowApart_of {B : Nat} {w w' : World} {u v : Value} {p q : Pg} (h : PgO B w u p) (k : PgO w.heap.size w' v q) : RowApart u v := fun g h1 h2 => by
  obtain ⟨_, _, _, _, _, rfl, ho, _⟩ := h.ex
  obtain ⟨_, _, _, _, _, rfl, ko, _⟩ := k.ex
  have e1 := (ho.row.lt g h1).2
  have e2 := (ko.row.lt g h2).1
  omega
theorem setCell_excT {w : World} {gr : Nat} {cs : Array Value} (h : w.heap[gr]? = some (.cells cs 51 (0, 0))) (i : Nat) (v : Value) : Exc (fun k o => k = gr ∧ ∃ (cs : Array Value) (fr : Nat × Nat), o = Obj.cells cs 51 fr) w (w.setCell ⟨gr, i, none⟩ v) :=
  ⟨rfl, rfl, rfl, by simp [World.setCell], fun k o hk hn => blk_setCell_other hk i v (fun e => by subst e; rw [h] at hk; injection hk with hk; exact hn ⟨rfl, cs, _, hk.symm⟩)⟩
theorem Own.setT {B : Nat} {w : World} {A : Option Addr} {c : Nat} {bs : List UInt8} (h : Own 5 B w A c bs) {gr : Nat} (hg : ∃ cs, w.heap[gr]? = some (.cells cs 51 (0, 0))) (i : Nat) (v : Value) : Own 5 B (w.setCell ⟨gr, i, none⟩ v) A c bs := by
  obtain ⟨cs, hg⟩ := hg
  exact ownsRow_exc h (setCell_excT hg i v) (fun k c _ ⟨_, _, _, e⟩ => by injection e with _ e; exact absurd e (by decide))
theorem PgO.setOther {B : Nat} {w : World} {v : Value} {p : Pg} (h : PgO B w v p) {gr : Nat} (hg : ∃ cs, w.heap[gr]? = some (.cells cs 51 (0, 0))) (hne : rowBlk v ≠ some gr) {i : Nat} {u : Value} : PgO B (w.setCell ⟨gr, i, none⟩ u) v p := by
  obtain ⟨iA, ic, dA, dc, ps, rfl, ho, hd, hn⟩ := h.ex
  obtain ⟨cs, hc⟩ := hg
  have hx := setCell_excT hc i u
  have hgb : w.grownBy (w.setCell ⟨gr, i, none⟩ u) (some gr) := ⟨rfl, rfl, rfl, by simp [World.setCell], fun k hk hn => Below.heap_setCell w _ u k (fun e => hn (by rw [e]))⟩
  refine ⟨iA, ic, dA, dc, ps, rfl, ⟨World.ownsRow.kept ho.row hgb ?_, ho.each.exc hx (fun k c _ ⟨_, _, _, e⟩ => by injection e with _ e; exact absurd e (by decide)), ho.apart⟩, hd.setT ⟨cs, hc⟩ i u, hn⟩
  cases hv : (Value.slice iA p.items.length ic).ownBlock with
  | none => exact .inl rfl
  | some k => exact .inr fun e => hne (by rw [← e]; exact hv)
/-- What span.Between answers. -/
def BtwIn (B : Nat) (a b : List UInt8) (v : Value) (w : World) : Prop := ∃ A c n z, v = .tuple #[.slice A n c, .bool z] ∧ Hid (n = (betwK a b).length) ∧ Hid (z = (betwB a b).isSome) ∧ Own 5 B w A c (betwK a b)
theorem BtwIn.lasts (B : Nat) (a b : List UInt8) (v : Value) : Lasts Ext (BtwIn B a b v) := fun w w' ⟨A, c, n, z, h1, h2, h3, h4⟩ hx => ⟨A, c, n, z, h1, h2, h3, h4.ext hx⟩
theorem betwK_some {a b s : List UInt8} (h : betwB a b = some s) : betwK a b = s := by simp [betwK, h]
/-- What is known behind the region in which parted makes both pages. -/
structure PartS (w0 w : World) (p q : Pg) (row : List It) (n : Nat) (v1 v2 : Value) (g1 g2 : Nat) : Prop where
  e : Ext w0 w
  b0 : ∃ iA ic dA dc, w.heap[w0.heap.size]? = some (.cells #[.int .i64 p.kind, .int .i64 p.level, .slice iA p.items.length ic, .slice dA p.data.length dc, .int .i64 p.next] 26)
  b2 : w.heap[w0.heap.size + 1 + 1]? = some (.cells #[.int .i64 0, .int .i64 0, .slice none 0 0, .slice none 0 0, .int .i64 0] 26)
  b3 : w.heap[w0.heap.size + 1 + 1 + 1]? = some (.cells #[.int .i64 0, .int .i64 0, .slice none 0 0, .slice none 0 0, .int .i64 0] 26)
  o1 : PgO (w0.heap.size + 4) w v1 { p with items := row.take n }
  o2 : PgO (w0.heap.size + 4) w v2 { q with items := row.drop n }
  s1 : StoredAt (w0.heap.size + 4) v1 (.pointer (some ⟨g1, 0, none⟩)) w
  s2 : StoredAt (w0.heap.size + 4) v2 (.pointer (some ⟨g2, 0, none⟩)) w
  ne : g1 ≠ g2
  ra : RowApart v1 v2
theorem Exc.pgo4 {D : Nat → Obj → Prop} {B : Nat} {w w' : World} {v : Value} {p : Pg} (hx : Exc D w w') (h : PgO B w v p) (hd : ∀ k o, D k o → k < B) : PgO B w' v p := h.exc hx (fun k cs h1 h2 => by have := hd _ _ h2; omega) (fun k cs h1 h2 => by have := hd _ _ h2; omega)
set_option maxHeartbeats 4000000 in
theorem parted_any {v u : Value} {p q : Pg} {A : Option Addr} {c m n : Nat} {row : List It} {w : World} (hv : PgV w v p) (hu : PgV w u q) (hr : Its w A c row) (hm : m = row.length) (h1 : 1 ≤ n) (h2 : n < row.length) :
    Calls Try.prog 56 #[v, u, .slice A m c, .int .i64 (n : Nat)] w fun e w' => ∃ v1 v2 A' c', e = .returned (.tuple #[v1, v2, .slice A' (part3 (partB p q row n)).length c', .bool (partB p q row n).isSome]) ∧
      PgO w.heap.size w' v1 (part1 (partB p q row n)) ∧ PgO w.heap.size w' v2 (part2 (partB p q row n)) ∧ Own 5 w.heap.size w' A' c' (part3 (partB p q row n)) ∧ Ext w w' := by
  subst hm
  obtain ⟨iA, ic, dA, dc, rfl, hi, hd⟩ := hv.ex
  obtain ⟨jA, jc, cA, cc, rfl, hj, hcd⟩ := hu.ex
  have hrl := hr.len
  go_enter Try.func56, Try.ntmps56
  go_wp2_with fail
  refine calls_cut (fun W => Ext w W ∧ W.heap[w.heap.size]? = some (.cells #[.int .i64 p.kind, .int .i64 p.level, .slice iA p.items.length ic, .slice dA p.data.length dc, .int .i64 p.next] 26) ∧
    W.heap[w.heap.size + 1]? = some (.cells #[.int .i64 q.kind, .int .i64 q.level, .slice jA q.items.length jc, .slice cA q.data.length cc, .int .i64 q.next] 26) ∧
    W.heap[w.heap.size + 1 + 1]? = some (.cells #[.int .i64 0, .int .i64 0, .slice none 0 0, .slice none 0 0, .int .i64 0] 26) ∧
    W.heap[w.heap.size + 1 + 1 + 1]? = some (.cells #[.int .i64 0, .int .i64 0, .slice none 0 0, .slice none 0 0, .int .i64 0] 26)) ⟨((ext_alloc _ _).trans (ext_alloc _ _)).trans ((ext_alloc _ _).trans (ext_alloc _ _)), (ext_alloc _ _).blk ((ext_alloc _ _).blk (heap_alloc2_old _ _ _)), (ext_alloc _ _).blk ((ext_alloc _ _).blk (heap_alloc2_new _ _ _)), (ext_alloc _ _).blk (heap_alloc_at _ _ _ (by simp)), heap_alloc_at _ _ _ (by simp)⟩ ?_
  rintro w1 ⟨hE, hb0, hb1, hb2, hb3⟩
  refine (parts_any (hr.ext hE) rfl (by omega)).mono ?_
  rintro e w3 ⟨_, rfl, hT0, hE1⟩
  obtain ⟨A', c', rfl, hT⟩ := hT0 w hr
  clear hT0
  have HB0 := Lib.hid (hE1.blk hb0)
  have HB1 := Lib.hid (hE1.blk hb1)
  have HB2 := Lib.hid (hE1.blk hb2)
  have HB3 := Lib.hid (hE1.blk hb3)
  have hE3 := hE.trans hE1
  have hw3 : w.heap.size + 3 < w3.heap.size := (Array.getElem?_eq_some_iff.1 HB3.out).1
  clear hb0 hb1 hb2 hb3 hE hE1
  have HT := Lib.hid (show (row.take n).length = n by simp; omega)
  have HD := Lib.hid (show (row.drop n).length = row.length - n by simp)
  go_wp2
  refine wp_region_rg (Exk (PgBlk w3.heap.size)) (rel_exk _) (fun _ => True) [0, 1, 2, 3, 4, 5, 6, 7, 8, 9, 10, 11] (fun i => match i with
    | 2 => some fun V => Built 23 w3.heap.size #[V 1]
    | 3 => some fun V v w' => PgO w3.heap.size w' v { p with items := row.take n }
    | 6 => some fun V => Built 23 w3.heap.size #[V 5]
    | 7 => some fun V v w' => RowApart (V 3) v ∧ PgO w3.heap.size w' v { q with items := row.drop n }
    | 8 => some fun V => PgCell w3.heap.size
    | 9 => some fun V => PgCell w3.heap.size
    | _ => none) (fun i => match i with
    | 10 => some fun V _ => StoredAt w3.heap.size (V 3) (V 8)
    | 11 => some fun V _ => Stored2 w3.heap.size (V 3) (V 8) (V 7) (V 9)
    | _ => none) (fun _ => false) (by kernel_rfl) (by kernel_rfl) (fun _ _ h he => trivial) trivial (fun W N hW hF0 hN => ?_)
  have hEW : Exk (PgBlk w3.heap.size) w3 W := Exk.of_ext hW
  have hX : ∀ w', Exk (PgBlk w3.heap.size) W w' → Ext w w' := fun w' h => (Exk.trans hEW h).x.to_ext hE3 (fun k _ hk => by have := hk.1; omega)
  have ea0 : ∀ w', Exk (PgBlk w3.heap.size) w3 w' → w'.cell? ⟨w.heap.size, 0, none⟩ = some (.int .i64 p.kind) := fun w' h => cell_of_row _ _ _ _ _ _ (h.x.blk HB0.out (PgBlk.notLt (by omega)))
  have ea1 : ∀ w', Exk (PgBlk w3.heap.size) w3 w' → w'.cell? ⟨w.heap.size, 1, none⟩ = some (.int .i64 p.level) := fun w' h => cell_of_row _ _ _ _ _ _ (h.x.blk HB0.out (PgBlk.notLt (by omega)))
  have ea2 : ∀ w', Exk (PgBlk w3.heap.size) w3 w' → w'.cell? ⟨w.heap.size, 2, none⟩ = some (.slice iA p.items.length ic) := fun w' h => cell_of_row _ _ _ _ _ _ (h.x.blk HB0.out (PgBlk.notLt (by omega)))
  have ea3 : ∀ w', Exk (PgBlk w3.heap.size) w3 w' → w'.cell? ⟨w.heap.size, 3, none⟩ = some (.slice dA p.data.length dc) := fun w' h => cell_of_row _ _ _ _ _ _ (h.x.blk HB0.out (PgBlk.notLt (by omega)))
  have ea4 : ∀ w', Exk (PgBlk w3.heap.size) w3 w' → w'.cell? ⟨w.heap.size, 4, none⟩ = some (.int .i64 p.next) := fun w' h => cell_of_row _ _ _ _ _ _ (h.x.blk HB0.out (PgBlk.notLt (by omega)))
  have eb0 : ∀ w', Exk (PgBlk w3.heap.size) w3 w' → w'.cell? ⟨w.heap.size + 1, 0, none⟩ = some (.int .i64 q.kind) := fun w' h => cell_of_row _ _ _ _ _ _ (h.x.blk HB1.out (PgBlk.notLt (by omega)))
  have eb1 : ∀ w', Exk (PgBlk w3.heap.size) w3 w' → w'.cell? ⟨w.heap.size + 1, 1, none⟩ = some (.int .i64 q.level) := fun w' h => cell_of_row _ _ _ _ _ _ (h.x.blk HB1.out (PgBlk.notLt (by omega)))
  have eb2 : ∀ w', Exk (PgBlk w3.heap.size) w3 w' → w'.cell? ⟨w.heap.size + 1, 2, none⟩ = some (.slice jA q.items.length jc) := fun w' h => cell_of_row _ _ _ _ _ _ (h.x.blk HB1.out (PgBlk.notLt (by omega)))
  have eb3 : ∀ w', Exk (PgBlk w3.heap.size) w3 w' → w'.cell? ⟨w.heap.size + 1, 3, none⟩ = some (.slice cA q.data.length cc) := fun w' h => cell_of_row _ _ _ _ _ _ (h.x.blk HB1.out (PgBlk.notLt (by omega)))
  have eb4 : ∀ w', Exk (PgBlk w3.heap.size) w3 w' → w'.cell? ⟨w.heap.size + 1, 4, none⟩ = some (.int .i64 q.next) := fun w' h => cell_of_row _ _ _ _ _ _ (h.x.blk HB1.out (PgBlk.notLt (by omega)))
  repeat (first | (apply wpR_one; (case ho => (simp only [List.getElem?_toArray, List.getElem?_cons_succ, List.getElem?_cons_zero]; try exact rfl)); (case hw => rfl); (case hl => rfl); (case hsp => rfl); (case he => rfl); (case hv => (intro w' hw'; (try (have hw2 := Ext.trans hEW hw')); (try (have hw3 := Exc.trans hEW hw')); (try (have hw4 := Exk.trans hEW hw')); (try (have hw5 := Mrk.trans hEW hw')); go_simp; exact rfl)); (case hw0 => (first | exact Below.refl _ _ | exact Exc.of_ext (Below.refl _ _) | exact Exk.of_ext (Below.refl _ _) | exact Mrk.of_ext (Below.refl _ _))); simp only [Act.put, List.setIfInBounds_toArray, List.set_cons_succ, List.set_cons_zero]) | (apply wpR_early; (case ho => (simp only [List.getElem?_toArray, List.getElem?_cons_succ, List.getElem?_cons_zero]; try exact rfl)); (case hw => rfl); (case hl => rfl); (case hsp => rfl); (case he => rfl); (case hv => (intro w' hw'; (try have hw2 := Ext.trans hEW hw'); go_simp; exact rfl)); simp only [Act.put, List.setIfInBounds_toArray, List.set_cons_succ, List.set_cons_zero]) | (apply wpR_pass; (case ho => (simp only [List.getElem?_toArray, List.getElem?_cons_succ, List.getElem?_cons_zero]; try exact rfl)); (case hw => rfl); (case hl => rfl); simp only [Act.put, List.setIfInBounds_toArray, List.set_cons_succ, List.set_cons_zero]))
  refine wpR_new (by ((simp only [List.getElem?_toArray, List.getElem?_cons_succ, List.getElem?_cons_zero]; try exact rfl))) _ rfl rfl rfl (fun V v => Built.lastsK _ _) (fun V V' h => by simp only [h 1 (by kernel_rfl)]) (fun w' hw' hK => ?_) (fun v hv => ?_)
  · have hXs := (hEW.trans hw').x.size
    unfold opAt
    go_simp
    exact upAt_value ⟨ext_alloc _ _, _, rfl, hXs, heap_alloc_new _ _⟩
  obtain ⟨h, rfl⟩ : ∃ h, v = .slice (some ⟨h, 0, none⟩) 1 1 := by
    obtain ⟨_, _, _, h, e, _⟩ := hv
    exact ⟨h, e⟩
  clear hv
  simp only [Act.put, List.setIfInBounds_toArray, List.set_cons_succ, List.set_cons_zero]
  refine wpR_new (by ((simp only [List.getElem?_toArray, List.getElem?_cons_succ, List.getElem?_cons_zero]; try exact rfl))) _ rfl rfl rfl (fun V v => PgO.lastsK _ _) (fun V V' h => rfl) (fun w' hw' hK => ?_) (fun v hv => ?_)
  · have HK2 := Lib.hid (hK 2 (by kernel_rfl)).2
    have HX := Lib.hid (hX w' hw')
    clear hK
    unfold opAt; go_simp; refine upAt_enter ?_
    obtain ⟨h', e4, _, hbk⟩ := HK2.out
    obtain rfl := sl_inj (show Value.slice (some ⟨h, 0, none⟩) 1 1 = _ from e4)
    have hpc : Pcs w' (some ⟨h, 0, none⟩) [row.take n] := by
      intro _
      refine ⟨_, _, rfl, fun j x hx => ?_⟩
      rw [cell_of_row _ _ _ _ _ _ hbk]
      rcases j with _ | j
      · simp only [List.getElem?_cons_zero, Option.some.injEq] at hx
        subst hx
        exact ⟨_, _, _, rfl, HT.out.symm, (hr.ext HX.out).take n n (by rw [HT.out]; exact Nat.le_refl _) (by omega)⟩
      · simp at hx
    refine (with_any (hv.ext HX.out) hpc rfl (Nat.le_refl _) (by simp) (by simp [joined]; omega)).mono ?_
    rintro e w2 ⟨v', rfl, hO, hE2⟩
    exact ⟨_, rfl, hE2, by simpa [joined] using hO.mono (hEW.trans hw').x.size⟩
  obtain ⟨iA1, dA1, ic1, dc1, n1, HN1, rfl⟩ : ∃ iA' dA' ic' dc' n', Hid (n' = (row.take n).length) ∧ v = .agg #[.int .i64 p.kind, .int .i64 p.level, .slice iA' n' ic', .slice dA' p.data.length dc', .int .i64 p.next] := by
    obtain ⟨_, _, _, hO⟩ := hv
    obtain ⟨iA', ic', dA', dc', ps, e, _⟩ := hO.ex
    exact ⟨_, _, _, _, _, Lib.hid rfl, e⟩
  clear hv
  simp only [Act.put, List.setIfInBounds_toArray, List.set_cons_succ, List.set_cons_zero]
  repeat (first | (apply wpR_one; (case ho => (simp only [List.getElem?_toArray, List.getElem?_cons_succ, List.getElem?_cons_zero]; try exact rfl)); (case hw => rfl); (case hl => rfl); (case hsp => rfl); (case he => rfl); (case hv => (intro w' hw'; (try (have hw2 := Ext.trans hEW hw')); (try (have hw3 := Exc.trans hEW hw')); (try (have hw4 := Exk.trans hEW hw')); (try (have hw5 := Mrk.trans hEW hw')); go_simp; exact rfl)); (case hw0 => (first | exact Below.refl _ _ | exact Exc.of_ext (Below.refl _ _) | exact Exk.of_ext (Below.refl _ _) | exact Mrk.of_ext (Below.refl _ _))); simp only [Act.put, List.setIfInBounds_toArray, List.set_cons_succ, List.set_cons_zero]) | (apply wpR_early; (case ho => (simp only [List.getElem?_toArray, List.getElem?_cons_succ, List.getElem?_cons_zero]; try exact rfl)); (case hw => rfl); (case hl => rfl); (case hsp => rfl); (case he => rfl); (case hv => (intro w' hw'; (try have hw2 := Ext.trans hEW hw'); go_simp; exact rfl)); simp only [Act.put, List.setIfInBounds_toArray, List.set_cons_succ, List.set_cons_zero]) | (apply wpR_pass; (case ho => (simp only [List.getElem?_toArray, List.getElem?_cons_succ, List.getElem?_cons_zero]; try exact rfl)); (case hw => rfl); (case hl => rfl); simp only [Act.put, List.setIfInBounds_toArray, List.set_cons_succ, List.set_cons_zero]))
  refine wpR_new (by ((simp only [List.getElem?_toArray, List.getElem?_cons_succ, List.getElem?_cons_zero]; try exact rfl))) _ rfl rfl rfl (fun V v => Built.lastsK _ _) (fun V V' h => by simp only [h 5 (by kernel_rfl)]) (fun w' hw' hK => ?_) (fun v hv => ?_)
  · have hXs := (hEW.trans hw').x.size
    unfold opAt
    go_simp
    exact upAt_value ⟨ext_alloc _ _, _, rfl, hXs, heap_alloc_new _ _⟩
  obtain ⟨h3, rfl⟩ : ∃ h, v = .slice (some ⟨h, 0, none⟩) 1 1 := by
    obtain ⟨_, _, _, h, e, _⟩ := hv
    exact ⟨h, e⟩
  clear hv
  simp only [Act.put, List.setIfInBounds_toArray, List.set_cons_succ, List.set_cons_zero]
  refine wpR_new (by ((simp only [List.getElem?_toArray, List.getElem?_cons_succ, List.getElem?_cons_zero]; try exact rfl))) _ rfl rfl rfl (fun V v => Lasts.pure.and (PgO.lastsK _ _)) (fun V V' h => by simp only [h 3 (by kernel_rfl)]) (fun w' hw' hK => ?_) (fun v hv => ?_)
  · have HK6 := Lib.hid (hK 6 (by kernel_rfl)).2
    have HK3 := Lib.hid (hK 3 (by kernel_rfl)).2
    have HX := Lib.hid (hX w' hw')
    clear hK
    unfold opAt; go_simp; refine upAt_enter ?_
    obtain ⟨h', e4, _, hbk⟩ := HK6.out
    obtain rfl := sl_inj (show Value.slice (some ⟨h3, 0, none⟩) 1 1 = _ from e4)
    have hpc : Pcs w' (some ⟨h3, 0, none⟩) [row.drop n] := by
      intro _
      refine ⟨_, _, rfl, fun j x hx => ?_⟩
      rw [cell_of_row _ _ _ _ _ _ hbk]
      rcases j with _ | j
      · simp only [List.getElem?_cons_zero, Option.some.injEq] at hx
        subst hx
        exact ⟨_, _, _, rfl, HD.out.symm, hT.ext HX.out⟩
      · simp at hx
    refine (with_any (hu.ext HX.out) hpc rfl (Nat.le_refl _) (by simp) (by simp [joined]; omega)).mono ?_
    rintro e w2 ⟨v', rfl, hO, hE2⟩
    exact ⟨_, rfl, hE2, rowApart_of HK3.out hO, by simpa [joined] using hO.mono (hEW.trans hw').x.size⟩
  obtain ⟨iA2, dA2, ic2, dc2, n2, HN2, rfl⟩ : ∃ iA' dA' ic' dc' n', Hid (n' = (row.drop n).length) ∧ v = .agg #[.int .i64 q.kind, .int .i64 q.level, .slice iA' n' ic', .slice dA' q.data.length dc', .int .i64 q.next] := by
    obtain ⟨_, _, _, _, hO⟩ := hv
    obtain ⟨iA', ic', dA', dc', ps, e, _⟩ := hO.ex
    exact ⟨_, _, _, _, _, Lib.hid rfl, e⟩
  clear hv
  simp only [Act.put, List.setIfInBounds_toArray, List.set_cons_succ, List.set_cons_zero]
  refine wpR_alloc (by ((simp only [List.getElem?_toArray, List.getElem?_cons_succ, List.getElem?_cons_zero]; try exact rfl))) _ rfl rfl rfl (fun V v => PgCell.lasts _ _) (fun V V' h => rfl) (fun w' hw' hK => ?_) (fun v hv => ?_)
  · have hXs := (hEW.trans hw').x.size
    unfold opAt
    go_simp
    exact upAt_value ⟨ext_alloc _ _, ⟨_, rfl, hXs, _, heap_alloc_new _ _, rfl⟩, fun _ g hg => by injection hg with hg; exact ⟨hg.symm, by simp⟩⟩
  obtain ⟨g1, rfl⟩ : ∃ g, v = .pointer (some ⟨g, 0, none⟩) := by
    obtain ⟨_, _, _, g, e, _⟩ := hv
    exact ⟨g, e⟩
  clear hv
  simp only [Act.put, List.setIfInBounds_toArray, List.set_cons_succ, List.set_cons_zero]
  refine wpR_alloc (by ((simp only [List.getElem?_toArray, List.getElem?_cons_succ, List.getElem?_cons_zero]; try exact rfl))) _ rfl rfl rfl (fun V v => PgCell.lasts _ _) (fun V V' h => rfl) (fun w' hw' hK => ?_) (fun v hv => ?_)
  · have hXs := (hEW.trans hw').x.size
    unfold opAt
    go_simp
    exact upAt_value ⟨ext_alloc _ _, ⟨_, rfl, hXs, _, heap_alloc_new _ _, rfl⟩, fun _ g hg => by injection hg with hg; exact ⟨hg.symm, by simp⟩⟩
  obtain ⟨g2, rfl⟩ : ∃ g, v = .pointer (some ⟨g, 0, none⟩) := by
    obtain ⟨_, _, _, g, e, _⟩ := hv
    exact ⟨g, e⟩
  clear hv
  simp only [Act.put, List.setIfInBounds_toArray, List.set_cons_succ, List.set_cons_zero]
  refine wpR_late (by ((simp only [List.getElem?_toArray, List.getElem?_cons_succ, List.getElem?_cons_zero]; try exact rfl))) _ rfl rfl (fun V v w' w2 h he => h.ext he) (fun V V' h => by simp only [h 3 (by kernel_rfl), h 8 (by kernel_rfl)]) (fun w' hw' hK hF => ?_) (fun v hv => ?_)
  · obtain ⟨g, e8, hg8, cs, hb8, hs8⟩ := (hK 8 (by kernel_rfl)).2
    obtain rfl := ptr_inj (show Value.pointer (some ⟨g1, 0, none⟩) = _ from e8)
    refine opAt_list rfl #[] (fun Q hQ => ?_)
    refine wpList_store_box rfl 26 _ _ rfl g1 _ rfl rfl 26 _ hb8 (by kernel_rfl) hs8 (by simp [Value.oneCell']) (fun w2 hb hg => ?_)
    exact hQ _ _ ⟨Exk.of_only hg hb8 hb (by rw [hs8]; rfl) ⟨hg8, _, _, rfl⟩, ⟨g1, _, rfl, hg8, rfl, hb⟩⟩
  clear hv
  simp only [Act.put, List.setIfInBounds_toArray, List.set_cons_succ, List.set_cons_zero]
  refine wpR_lateP (by ((simp only [List.getElem?_toArray, List.getElem?_cons_succ, List.getElem?_cons_zero]; try exact rfl))) _ rfl rfl (fun V v w' w2 h he => ⟨h.1.ext he, h.2.1.ext he, h.2.2⟩) (fun V V' h => by simp only [h 3 (by kernel_rfl), h 8 (by kernel_rfl), h 7 (by kernel_rfl), h 9 (by kernel_rfl)]) (fun w' hw' hK hF hP => ?_) (fun v hv => ?_)
  · obtain ⟨g, e9, hg9, cs, hb9, hs9⟩ := (hK 9 (by kernel_rfl)).2
    obtain rfl := ptr_inj (show Value.pointer (some ⟨g2, 0, none⟩) = _ from e9)
    have hne : g1 ≠ g2 := fun e => hP 8 9 (by kernel_rfl) (by kernel_rfl) (by decide) (by kernel_rfl) (by kernel_rfl) g1 rfl (by rw [e]; rfl)
    obtain ⟨g', cs', e10, hg10, e11, hb10⟩ := hF
    obtain rfl := ptr_inj (show Value.pointer (some ⟨g1, 0, none⟩) = _ from e10)
    refine opAt_list rfl #[] (fun Q hQ => ?_)
    refine wpList_store_box rfl 26 _ _ rfl g2 _ rfl rfl 26 _ hb9 (by kernel_rfl) hs9 (by simp [Value.oneCell']) (fun w2 hb hg => ?_)
    exact hQ _ _ ⟨Exk.of_only hg hb9 hb (by rw [hs9]; rfl) ⟨hg9, _, _, rfl⟩, ⟨g1, _, rfl, hg10, e11, blk_other hb10 hg hne⟩, ⟨g2, _, rfl, hg9, rfl, hb⟩, fun e => hne (ptr_inj (show Value.pointer (some ⟨g1, 0, none⟩) = Value.pointer (some ⟨g2, 0, none⟩) from e))⟩
  clear hv
  apply wpR_nil
  apply hN
  intro w4 hE' hK hF
  have hS : PartS w w4 p q row n (.agg #[.int .i64 p.kind, .int .i64 p.level, .slice iA1 n1 ic1, .slice dA1 p.data.length dc1, .int .i64 p.next]) (.agg #[.int .i64 q.kind, .int .i64 q.level, .slice iA2 n2 ic2, .slice dA2 q.data.length dc2, .int .i64 q.next]) g1 g2 := by
    have hx := (hEW.trans hE').x
    have o1 : PgO w3.heap.size w4 _ { p with items := row.take n } := (hK 3).2
    have o2 : RowApart _ _ ∧ PgO w3.heap.size w4 _ { q with items := row.drop n } := (hK 7).2
    obtain ⟨s1, s2, hne⟩ := hF
    refine ⟨hX w4 hE', ⟨_, _, _, _, hx.blk HB0.out (PgBlk.notLt (by omega))⟩, hx.blk HB2.out (PgBlk.notLt (by omega)), hx.blk HB3.out (PgBlk.notLt (by omega)), o1.mono (by omega), o2.2.mono (by omega), ?_, ?_, fun e => hne (by rw [e]; rfl), o2.1⟩
    · obtain ⟨g, cs, x1, x2, x3, x4⟩ := s1
      exact ⟨g, cs, x1, by omega, x3, x4⟩
    · obtain ⟨g, cs, x1, x2, x3, x4⟩ := s2
      exact ⟨g, cs, x1, by omega, x3, x4⟩
  clear hK hN hF ea0 ea1 ea2 ea3 ea4 eb0 eb1 eb2 eb3 eb4 hX hEW hE' hW hF0 HB0 HB1 HB2 HB3
  obtain ⟨hE, ⟨iA9, ic9, dA9, dc9, b0⟩, b2, b3, o1, o2, s1, s2, hne, ra⟩ := hS
  obtain ⟨_, _, e, hg1, e', d1⟩ := s1
  obtain rfl := ptr_inj e
  injection e' with e'
  subst e'
  obtain ⟨_, _, e, hg2, e', d2⟩ := s2
  obtain rfl := ptr_inj e
  injection e' with e'
  subst e'
  have p0 := cell_of_row w4 w.heap.size 0 _ _ _ b0
  have x0 := cell_of_row w4 g1 0 _ _ _ d1
  have x1 := cell_of_row w4 g1 1 _ _ _ d1
  have x2 := cell_of_row w4 g1 2 _ _ _ d1
  have x3 := cell_of_row w4 g1 3 _ _ _ d1
  have x4 := cell_of_row w4 g1 4 _ _ _ d1
  have y0 := cell_of_row w4 g2 0 _ _ _ d2
  have y1 := cell_of_row w4 g2 1 _ _ _ d2
  have y2 := cell_of_row w4 g2 2 _ _ _ d2
  have y3 := cell_of_row w4 g2 3 _ _ _ d2
  have y4 := cell_of_row w4 g2 4 _ _ _ d2
  simp only [List.getElem?_toArray, List.getElem?_cons_zero, List.getElem?_cons_succ] at p0 x0 x1 x2 x3 x4 y0 y1 y2 y3 y4
  have ho2 : ∃ ps, OwnIts (w.heap.size + 4) w4 iA2 ic2 (row.drop n) ps ∧ Own 5 (w.heap.size + 4) w4 dA2 dc2 q.data ∧ ∀ a ∈ flat ps, NoShare (.slice dA2 q.data.length dc2) a := by
    obtain ⟨_, _, _, _, ps, e, k1, k2, k3⟩ := o2.ex
    obtain ⟨rfl, rfl, rfl, rfl⟩ := pgv_inj e
    exact ⟨ps, k1, k2, k3⟩
  obtain ⟨ps, k1, k2, k3⟩ := ho2
  have K1 := Lib.hid k1
  have K2 := Lib.hid k2
  have K3 := Lib.hid k3
  have B0 := Lib.hid b0
  clear b0 k1 k2 k3
  obtain ⟨x, hx⟩ : ∃ x, row[n]? = some x := ⟨_, List.getElem?_eq_getElem h2⟩
  have hx0 : (row.drop n)[0]? = some x := by rw [List.getElem?_drop]; simpa using hx
  by_cases hk2 : p.kind = 2
  · have c1 : (p.kind == 2) = true := by simpa using hk2
    have HQ := Lib.hid (show partB p q row n = some ({ p with items := row.take n }, { q with items := (row.drop n).modify 0 (·.keyed []) }, x.key) by
      unfold partB
      rw [if_pos hk2, List.getD_eq_getElem?_getD, hx]
      rfl)
    obtain ⟨gr, cp, hgA, hgB, _⟩ := World.ownsRow.form K1.out.row (by rw [HD.out]; omega)
    injection hgA with hA1 hA2 hA3
    subst hA1 hA3
    clear hA2
    obtain ⟨pr, hpr, ⟨kA, kc, hkv, hko⟩, _⟩ := K1.out.each.at_ hx0
    have z0 := World.ownsRow.cellAt K1.out.row 0 (by rw [HD.out]; omega)
    have z0' := rowCells_at ps _ 0 0 pr x hpr hx0 (by omega)
    simp only [Nat.zero_mul, Nat.zero_add] at z0'
    rw [z0'] at z0
    simp only [itCells, hkv, List.getElem?_cons_zero] at z0
    have f0 := World.ownsRow.frozenAt K1.out.row 0
    have hty : ∀ g cs, w4.heap[g]? = some (.cells cs 26 (0, 0)) → g ≠ gr := fun g cs h e => by
      subst e
      rcases K1.out.row.2 with ⟨h0, _⟩ | ⟨g', cap, cur, e', _, hg', _⟩
      · cases h0
      · obtain rfl := sl_inj e'
        rw [h] at hg'
        injection hg' with hg'
        injection hg' with _ e
        exact absurd e (by decide)
    have hm0 : (row.drop n).modify 0 (·.keyed []) = (row.drop n).set 0 (x.keyed []) := modify_at _ hx0
    have hmem : pr.1 ∈ flat ps := by
      obtain ⟨pr', rfl⟩ : ∃ l, ps = pr :: l := by
        cases ps with
        | nil => simp at hpr
        | cons a l => simp only [List.getElem?_cons_zero, Option.some.injEq] at hpr; subst hpr; exact ⟨l, rfl⟩
      simp [flat]
    have hset := K1.out.setKey (k := []) (v := .slice none 0 0) hpr hx0 (SOwn.nil _ _ _) (fun a _ => noShare_nil a)
    rw [Nat.zero_mul] at hset
    have hex := setCell_exc w4 gr 0 (.slice none 0 0)
    have hEn : Ext w (w4.setCell ⟨gr, 0, none⟩ (.slice none 0 0)) := hex.to_ext hE (fun k _ hk => by omega)
    have m1 := hty _ _ d1
    have m2 := hty _ _ d2
    have m3 := hty _ _ b2
    have m4 := hty _ _ b3
    have hgi : ∃ cs, w4.heap[gr]? = some (.cells cs 51 (0, 0)) := by
      rcases K1.out.row.2 with ⟨h0, _⟩ | ⟨g', cap, cur, e', _, hg', _⟩
      · cases h0
      · obtain rfl := sl_inj e'
        exact ⟨_, hg'⟩
    have hnu : ∀ cs, w4.heap[gr]? ≠ some (.cells cs 5 (0, 0)) := fun cs h => by
      rcases K1.out.row.2 with ⟨h0, _⟩ | ⟨g', cap, cur, e', _, hg', _⟩
      · cases h0
      · obtain rfl := sl_inj e'
        rw [h] at hg'
        injection hg' with hg'
        injection hg' with _ e
        exact absurd e (by decide)
    have hO1 : PgO (w.heap.size + 4) (w4.setCell ⟨gr, 0, none⟩ (.slice none 0 0)) (.agg #[.int .i64 p.kind, .int .i64 p.level, .slice iA1 n1 ic1, .slice dA1 p.data.length dc1, .int .i64 p.next]) { p with items := row.take n } := o1.setOther hgi (by
      intro e
      exact ra gr e rfl)
    have hO2 : PgO (w.heap.size + 4) (w4.setCell ⟨gr, 0, none⟩ (.slice none 0 0)) (.agg #[.int .i64 q.kind, .int .i64 q.level, .slice (some ⟨gr, 0, none⟩) n2 ic2, .slice dA2 q.data.length dc2, .int .i64 q.next]) { q with items := (row.drop n).modify 0 (·.keyed []) } := by
      rw [hm0]
      refine ⟨some ⟨gr, 0, none⟩, ic2, dA2, dc2, _, by rw [HN2.out]; simp, hset, ?_, ?_⟩
      · exact K2.out.setT hgi 0 _
      · intro a ha
        rw [flat_set ps 0 pr _ hpr] at ha
        rcases List.mem_or_eq_of_mem_set ha with ha | rfl
        · exact K3.out a ha
        · exact (noShare_nil _).1
    have hOS : Own 5 (w.heap.size + 4) (w4.setCell ⟨gr, 0, none⟩ (.slice none 0 0)) kA kc x.key := hko.setT hgi 0 _
    have b2' := hex.blk b2 m3
    have b3' := hex.blk b3 m4
    have d1' := hex.blk d1 m1
    have d2' := hex.blk d2 m2
    clear hk2 hm0 hset hty hmem hnu z0' hpr hkv hko hx0 hx x0 x1 x3 x4 y0 y1 y3 y4 m1 m2 m3 m4 hex b2 b3 d1 d2 hE o1 o2
    have hn2 : 0 < n2 := by rw [HN2.out, HD.out]; omega
    have hn2i : (0 : Int) < (n2 : Int) := by omega
    go_wp2
    refine wp_cut (fun W => Ext w W ∧ W.heap[w.heap.size + 1 + 1]? = some (.cells #[.int .i64 0, .int .i64 0, .slice none 0 0, .slice none 0 0, .int .i64 0] 26) ∧ W.heap[w.heap.size + 1 + 1 + 1]? = some (.cells #[.int .i64 0, .int .i64 0, .slice none 0 0, .slice none 0 0, .int .i64 0] 26) ∧ W.heap[g1]? = some (.cells #[.int .i64 p.kind, .int .i64 p.level, .slice iA1 n1 ic1, .slice dA1 p.data.length dc1, .int .i64 p.next] 26) ∧ W.heap[g2]? = some (.cells #[.int .i64 q.kind, .int .i64 q.level, .slice (some ⟨gr, 0, none⟩) n2 ic2, .slice dA2 q.data.length dc2, .int .i64 q.next] 26) ∧
      PgO (w.heap.size + 4) W (.agg #[.int .i64 p.kind, .int .i64 p.level, .slice iA1 n1 ic1, .slice dA1 p.data.length dc1, .int .i64 p.next]) { p with items := row.take n } ∧ PgO (w.heap.size + 4) W (.agg #[.int .i64 q.kind, .int .i64 q.level, .slice (some ⟨gr, 0, none⟩) n2 ic2, .slice dA2 q.data.length dc2, .int .i64 q.next]) { q with items := (row.drop n).modify 0 (·.keyed []) } ∧ Own 5 (w.heap.size + 4) W kA kc x.key) ⟨hEn, b2', b3', d1', d2', hO1, hO2, hOS⟩ ?_
    clear hEn b2' b3' d1' d2' hO1 hO2 hOS f0 z0
    rintro w5 ⟨hEw, b2, b3, d1, d2, o1, o2, os⟩
    have O1 := Lib.hid o1
    have O2 := Lib.hid o2
    have OS := Lib.hid os
    clear o1 o2 os
    refine wp_region_rg (Exc (fun k _ => k = w.heap.size + 1 + 1 ∨ k = w.heap.size + 1 + 1 + 1)) (rel_exc _) (fun w' => w'.heap[w.heap.size + 1 + 1]? = some (.cells #[.int .i64 0, .int .i64 0, .slice none 0 0, .slice none 0 0, .int .i64 0] 26) ∧ w'.heap[w.heap.size + 1 + 1 + 1]? = some (.cells #[.int .i64 0, .int .i64 0, .slice none 0 0, .slice none 0 0, .int .i64 0] 26)) [0, 1, 2, 3, 4, 5, 6] (fun _ => none) (fun i => match i with
      | 3 => some fun _ _ w' => w'.heap[w.heap.size + 1 + 1]? = some (.cells #[.int .i64 p.kind, .int .i64 p.level, .slice iA1 n1 ic1, .slice dA1 p.data.length dc1, .int .i64 p.next] 26) ∧ w'.heap[w.heap.size + 1 + 1 + 1]? = some (.cells #[.int .i64 0, .int .i64 0, .slice none 0 0, .slice none 0 0, .int .i64 0] 26)
      | 4 => some fun _ _ w' => w'.heap[w.heap.size + 1 + 1]? = some (.cells #[.int .i64 p.kind, .int .i64 p.level, .slice iA1 n1 ic1, .slice dA1 p.data.length dc1, .int .i64 p.next] 26) ∧ w'.heap[w.heap.size + 1 + 1 + 1]? = some (.cells #[.int .i64 q.kind, .int .i64 q.level, .slice (some ⟨gr, 0, none⟩) n2 ic2, .slice dA2 q.data.length dc2, .int .i64 q.next] 26)
      | _ => none) (fun _ => false) (by kernel_rfl) (by kernel_rfl) (fun _ _ h he => ⟨he.blk h.1, he.blk h.2⟩) ⟨b2, b3⟩ (fun W N hW hF0 hN => ?_)
    have hEW : Exc (fun k _ => k = w.heap.size + 1 + 1 ∨ k = w.heap.size + 1 + 1 + 1) w5 W := Exc.of_ext hW
    have D1 := Lib.hid d1
    have D2 := Lib.hid d2
    clear b2 b3 d1 d2
    have x0 : ∀ w', Exc (fun k _ => k = w.heap.size + 1 + 1 ∨ k = w.heap.size + 1 + 1 + 1) w5 w' → w'.cell? ⟨g1, 0, none⟩ = some (.int .i64 p.kind) := fun w' h => cell_of_row _ _ _ _ _ _ (h.blk D1.out (by omega))
    have x1 : ∀ w', Exc (fun k _ => k = w.heap.size + 1 + 1 ∨ k = w.heap.size + 1 + 1 + 1) w5 w' → w'.cell? ⟨g1, 1, none⟩ = some (.int .i64 p.level) := fun w' h => cell_of_row _ _ _ _ _ _ (h.blk D1.out (by omega))
    have x2 : ∀ w', Exc (fun k _ => k = w.heap.size + 1 + 1 ∨ k = w.heap.size + 1 + 1 + 1) w5 w' → w'.cell? ⟨g1, 2, none⟩ = some (.slice iA1 n1 ic1) := fun w' h => cell_of_row _ _ _ _ _ _ (h.blk D1.out (by omega))
    have x3 : ∀ w', Exc (fun k _ => k = w.heap.size + 1 + 1 ∨ k = w.heap.size + 1 + 1 + 1) w5 w' → w'.cell? ⟨g1, 3, none⟩ = some (.slice dA1 p.data.length dc1) := fun w' h => cell_of_row _ _ _ _ _ _ (h.blk D1.out (by omega))
    have x4 : ∀ w', Exc (fun k _ => k = w.heap.size + 1 + 1 ∨ k = w.heap.size + 1 + 1 + 1) w5 w' → w'.cell? ⟨g1, 4, none⟩ = some (.int .i64 p.next) := fun w' h => cell_of_row _ _ _ _ _ _ (h.blk D1.out (by omega))
    have y0 : ∀ w', Exc (fun k _ => k = w.heap.size + 1 + 1 ∨ k = w.heap.size + 1 + 1 + 1) w5 w' → w'.cell? ⟨g2, 0, none⟩ = some (.int .i64 q.kind) := fun w' h => cell_of_row _ _ _ _ _ _ (h.blk D2.out (by omega))
    have y1 : ∀ w', Exc (fun k _ => k = w.heap.size + 1 + 1 ∨ k = w.heap.size + 1 + 1 + 1) w5 w' → w'.cell? ⟨g2, 1, none⟩ = some (.int .i64 q.level) := fun w' h => cell_of_row _ _ _ _ _ _ (h.blk D2.out (by omega))
    have y2 : ∀ w', Exc (fun k _ => k = w.heap.size + 1 + 1 ∨ k = w.heap.size + 1 + 1 + 1) w5 w' → w'.cell? ⟨g2, 2, none⟩ = some (.slice (some ⟨gr, 0, none⟩) n2 ic2) := fun w' h => cell_of_row _ _ _ _ _ _ (h.blk D2.out (by omega))
    have y3 : ∀ w', Exc (fun k _ => k = w.heap.size + 1 + 1 ∨ k = w.heap.size + 1 + 1 + 1) w5 w' → w'.cell? ⟨g2, 3, none⟩ = some (.slice dA2 q.data.length dc2) := fun w' h => cell_of_row _ _ _ _ _ _ (h.blk D2.out (by omega))
    have y4 : ∀ w', Exc (fun k _ => k = w.heap.size + 1 + 1 ∨ k = w.heap.size + 1 + 1 + 1) w5 w' → w'.cell? ⟨g2, 4, none⟩ = some (.int .i64 q.next) := fun w' h => cell_of_row _ _ _ _ _ _ (h.blk D2.out (by omega))
    repeat (first | (apply wpR_one; (case ho => (simp only [List.getElem?_toArray, List.getElem?_cons_succ, List.getElem?_cons_zero]; try exact rfl)); (case hw => rfl); (case hl => rfl); (case hsp => rfl); (case he => rfl); (case hv => (intro w' hw'; (try (have hw2 := Ext.trans hEW hw')); (try (have hw3 := Exc.trans hEW hw')); (try (have hw4 := Exk.trans hEW hw')); (try (have hw5 := Mrk.trans hEW hw')); go_simp; exact rfl)); (case hw0 => (first | exact Below.refl _ _ | exact Exc.of_ext (Below.refl _ _) | exact Exk.of_ext (Below.refl _ _) | exact Mrk.of_ext (Below.refl _ _))); simp only [Act.put, List.setIfInBounds_toArray, List.set_cons_succ, List.set_cons_zero]) | (apply wpR_early; (case ho => (simp only [List.getElem?_toArray, List.getElem?_cons_succ, List.getElem?_cons_zero]; try exact rfl)); (case hw => rfl); (case hl => rfl); (case hsp => rfl); (case he => rfl); (case hv => (intro w' hw'; (try have hw2 := Ext.trans hEW hw'); go_simp; exact rfl)); simp only [Act.put, List.setIfInBounds_toArray, List.set_cons_succ, List.set_cons_zero]) | (apply wpR_pass; (case ho => (simp only [List.getElem?_toArray, List.getElem?_cons_succ, List.getElem?_cons_zero]; try exact rfl)); (case hw => rfl); (case hl => rfl); simp only [Act.put, List.setIfInBounds_toArray, List.set_cons_succ, List.set_cons_zero]))
    refine wpR_late (by ((simp only [List.getElem?_toArray, List.getElem?_cons_succ, List.getElem?_cons_zero]; try exact rfl))) _ rfl rfl (fun V v w' w2 h he => ⟨he.blk h.1, he.blk h.2⟩) (fun V V' h => rfl) (fun w' hw' hK hF => ?_) (fun v hv => ?_)
    · refine opAt_list rfl #[] (fun Q hQ => ?_)
      refine wpList_store_box rfl 26 _ _ rfl (w.heap.size + 1 + 1) _ rfl rfl 26 _ hF.1 (by kernel_rfl) rfl (by simp [Value.oneCell']) (fun w2 hb hg => ?_)
      exact hQ _ _ ⟨Exc.of_only hg (fun _ _ => .inl rfl), hb, blk_other hF.2 hg (by omega)⟩
    clear hv
    simp only [Act.put, List.setIfInBounds_toArray, List.set_cons_succ, List.set_cons_zero]
    refine wpR_late (by ((simp only [List.getElem?_toArray, List.getElem?_cons_succ, List.getElem?_cons_zero]; try exact rfl))) _ rfl rfl (fun V v w' w2 h he => ⟨he.blk h.1, he.blk h.2⟩) (fun V V' h => rfl) (fun w' hw' hK hF => ?_) (fun v hv => ?_)
    · refine opAt_list rfl #[] (fun Q hQ => ?_)
      refine wpList_store_box rfl 26 _ _ rfl (w.heap.size + 1 + 1 + 1) _ rfl rfl 26 _ hF.2 (by kernel_rfl) rfl (by simp [Value.oneCell']) (fun w2 hb hg => ?_)
      exact hQ _ _ ⟨Exc.of_only hg (fun _ _ => .inr rfl), blk_other hF.1 hg (by omega), hb⟩
    clear hv
    simp only [Act.put, List.setIfInBounds_toArray, List.set_cons_succ, List.set_cons_zero]
    repeat (first | (apply wpR_one; (case ho => (simp only [List.getElem?_toArray, List.getElem?_cons_succ, List.getElem?_cons_zero]; try exact rfl)); (case hw => rfl); (case hl => rfl); (case hsp => rfl); (case he => rfl); (case hv => (intro w' hw'; (try (have hw2 := Ext.trans hEW hw')); (try (have hw3 := Exc.trans hEW hw')); (try (have hw4 := Exk.trans hEW hw')); (try (have hw5 := Mrk.trans hEW hw')); go_simp; exact rfl)); (case hw0 => (first | exact Below.refl _ _ | exact Exc.of_ext (Below.refl _ _) | exact Exk.of_ext (Below.refl _ _) | exact Mrk.of_ext (Below.refl _ _))); simp only [Act.put, List.setIfInBounds_toArray, List.set_cons_succ, List.set_cons_zero]) | (apply wpR_early; (case ho => (simp only [List.getElem?_toArray, List.getElem?_cons_succ, List.getElem?_cons_zero]; try exact rfl)); (case hw => rfl); (case hl => rfl); (case hsp => rfl); (case he => rfl); (case hv => (intro w' hw'; (try have hw2 := Ext.trans hEW hw'); go_simp; exact rfl)); simp only [Act.put, List.setIfInBounds_toArray, List.set_cons_succ, List.set_cons_zero]) | (apply wpR_pass; (case ho => (simp only [List.getElem?_toArray, List.getElem?_cons_succ, List.getElem?_cons_zero]; try exact rfl)); (case hw => rfl); (case hl => rfl); simp only [Act.put, List.setIfInBounds_toArray, List.set_cons_succ, List.set_cons_zero]))
    apply wpR_nil
    apply hN
    intro w9 hE9 hK hF
    obtain ⟨r1, r2⟩ := hF
    have hx9 := hEW.trans hE9
    have hE' : Ext w w9 := hx9.to_ext hEw (fun k _ hk => by omega)
    have R1 := Lib.hid (hx9.pgo4 O1.out (fun k _ hk => by omega))
    have R2 := Lib.hid (hx9.pgo4 O2.out (fun k _ hk => by omega))
    have R3 := Lib.hid (ownsRow_exc OS.out hx9 (fun k cs h1 h2 => by omega))
    clear hK hN x0 x1 x2 x3 x4 y0 y1 y2 y3 y4 hEW hE9 hx9 hW hF0
    go_wp2
    refine bodyPost_ret (results_rrtt rfl _ _ _ _ _ _ _ _ _ _ _ _ rfl r1 Try.underlying26 rfl (by kernel_rfl) rfl r2 Try.underlying26 rfl (by kernel_rfl)) rfl ⟨_, _, _, _, by rw [HQ.out]; rfl, by rw [HQ.out]; exact R1.out.mono (by omega), ?_, ?_, hE'⟩
    · rw [HQ.out]; exact R2.out.mono (by omega)
    · rw [HQ.out]; exact ownsRow_mono R3.out (by omega)
  · have c1 : (p.kind == 2) = false := by simpa using hk2
    obtain ⟨y, hy⟩ : ∃ y, row[n - 1]? = some y := ⟨_, List.getElem?_eq_getElem (by omega)⟩
    have HQ0 := Lib.hid (show partB p q row n = (betwB y.key x.key).map fun s => ({ p with items := row.take n }, { q with items := row.drop n }, s) by
      unfold partB
      rw [if_neg hk2, List.getD_eq_getElem?_getD, List.getD_eq_getElem?_getD, hx, hy]
      rfl)
    obtain ⟨b, o, rfl, hcx⟩ := hr.rd (by omega)
    obtain ⟨lA, lc, _, _, z0, _, _, _, zk, _⟩ := hcx (n - 1) y hy
    obtain ⟨b', o', hA', hcx'⟩ := hT.rd (by rw [HD.out]; omega)
    subst hA'
    obtain ⟨mA, mc, _, _, z1, _, _, _, xk, _⟩ := hcx' 0 x hx0
    rw [Nat.zero_mul, Nat.add_zero] at z1
    have ez0 : ∀ w', Ext w4 w' → w'.cell? ⟨b, o + (n - 1) * 4, none⟩ = some (.slice lA y.key.length lc) := fun w' h => (hE.trans h).cell z0
    have ez1 : ∀ w', Ext w4 w' → w'.cell? ⟨b', o', none⟩ = some (.slice mA x.key.length mc) := fun w' h => (hE.trans h).cell z1
    have i1 : (1 : Int) ≤ (n : Int) := by omega
    have i2 : (n : Int) - 1 < (n : Int) := by omega
    have i3 : (0 : Int) < ((row.length - n : Nat) : Int) := by omega
    have i4 : 0 < row.length - n := by omega
    have i5 : n < row.length := h2
    have h44 : w.heap.size + 4 ≤ w4.heap.size := (Array.getElem?_eq_some_iff.1 b3).1
    have D1 := Lib.hid d1
    have D2 := Lib.hid d2
    have B2 := Lib.hid b2
    have B3 := Lib.hid b3
    have O1 := Lib.hid o1
    have O2 := Lib.hid o2
    clear hk2 hx hx0 hy hcx hcx' z0 z1 x0 x1 x2 x3 x4 y0 y1 y2 y3 y4 d1 d2 b2 b3 o1 o2
    go_wp2
    refine wp_region_rg Ext rel_ext (fun _ => True) [0, 1, 2, 3, 4, 5, 6, 7, 8, 9, 10, 11, 12, 13, 14, 15] (fun i => match i with
      | 10 => some fun _ => BtwIn w4.heap.size y.key x.key
      | _ => none) (fun _ => none) (fun _ => false) (by kernel_rfl) (by kernel_rfl) (fun _ _ _ _ => trivial) trivial (fun W N hW _ hN => ?_)
    have hEW : Ext w4 W := hW
    have iw : IntKind.i64.wrap ((n : Int) - 1) = (n : Int) - 1 := IntWalk.i64_in _ (by omega)
    have iw2 : ((n : Int) - 1).toNat = n - 1 := by omega
    repeat (first | (apply wpR_one; (case ho => (simp only [List.getElem?_toArray, List.getElem?_cons_succ, List.getElem?_cons_zero]; try exact rfl)); (case hw => rfl); (case hl => rfl); (case hsp => rfl); (case he => rfl); (case hv => (intro w' hw'; (try (have hw2 := Ext.trans hEW hw')); (try (have hw3 := Exc.trans hEW hw')); (try (have hw4 := Exk.trans hEW hw')); (try (have hw5 := Mrk.trans hEW hw')); go_simp; exact rfl)); (case hw0 => (first | exact Below.refl _ _ | exact Exc.of_ext (Below.refl _ _) | exact Exk.of_ext (Below.refl _ _) | exact Mrk.of_ext (Below.refl _ _))); simp only [Act.put, List.setIfInBounds_toArray, List.set_cons_succ, List.set_cons_zero]) | (apply wpR_early; (case ho => (simp only [List.getElem?_toArray, List.getElem?_cons_succ, List.getElem?_cons_zero]; try exact rfl)); (case hw => rfl); (case hl => rfl); (case hsp => rfl); (case he => rfl); (case hv => (intro w' hw'; (try have hw2 := Ext.trans hEW hw'); go_simp; exact rfl)); simp only [Act.put, List.setIfInBounds_toArray, List.set_cons_succ, List.set_cons_zero]) | (apply wpR_pass; (case ho => (simp only [List.getElem?_toArray, List.getElem?_cons_succ, List.getElem?_cons_zero]; try exact rfl)); (case hw => rfl); (case hl => rfl); simp only [Act.put, List.setIfInBounds_toArray, List.set_cons_succ, List.set_cons_zero]))
    refine wpR_new (by ((simp only [List.getElem?_toArray, List.getElem?_cons_succ, List.getElem?_cons_zero]; try exact rfl))) _ rfl rfl rfl (fun V v => BtwIn.lasts _ _ _ _) (fun V V' h => rfl) (fun w' hw' hK => ?_) (fun v hv => ?_)
    · have HX := Lib.hid (hE.trans (hEW.trans hw'))
      have HY := Lib.hid (hEW.trans hw').size
      clear hK
      unfold opAt; go_simp; refine upAt_enter ?_
      refine (between_any (zk.ext HX.out) (xk.ext HX.out) rfl rfl).mono ?_
      rintro e w2 ⟨A6, c6, rfl, ho, hE6⟩
      exact ⟨_, rfl, hE6, A6, c6, _, _, rfl, Lib.hid rfl, Lib.hid rfl, ho.mono HY.out⟩
    obtain ⟨A6, c6, n6, z6, HN6, HZ6, rfl⟩ : ∃ A c n z, Hid (n = (betwK y.key x.key).length) ∧ Hid (z = (betwB y.key x.key).isSome) ∧ v = .tuple #[.slice A n c, .bool z] := by
      obtain ⟨_, _, _, A, c, n, z, h, h1, h2, _⟩ := hv
      exact ⟨A, c, n, z, h1, h2, h⟩
    clear hv
    simp only [Act.put, List.setIfInBounds_toArray, List.set_cons_succ, List.set_cons_zero]
    repeat (first | (apply wpR_one; (case ho => (simp only [List.getElem?_toArray, List.getElem?_cons_succ, List.getElem?_cons_zero]; try exact rfl)); (case hw => rfl); (case hl => rfl); (case hsp => rfl); (case he => rfl); (case hv => (intro w' hw'; (try (have hw2 := Ext.trans hEW hw')); (try (have hw3 := Exc.trans hEW hw')); (try (have hw4 := Exk.trans hEW hw')); (try (have hw5 := Mrk.trans hEW hw')); go_simp; exact rfl)); (case hw0 => (first | exact Below.refl _ _ | exact Exc.of_ext (Below.refl _ _) | exact Exk.of_ext (Below.refl _ _) | exact Mrk.of_ext (Below.refl _ _))); simp only [Act.put, List.setIfInBounds_toArray, List.set_cons_succ, List.set_cons_zero]) | (apply wpR_early; (case ho => (simp only [List.getElem?_toArray, List.getElem?_cons_succ, List.getElem?_cons_zero]; try exact rfl)); (case hw => rfl); (case hl => rfl); (case hsp => rfl); (case he => rfl); (case hv => (intro w' hw'; (try have hw2 := Ext.trans hEW hw'); go_simp; exact rfl)); simp only [Act.put, List.setIfInBounds_toArray, List.set_cons_succ, List.set_cons_zero]) | (apply wpR_pass; (case ho => (simp only [List.getElem?_toArray, List.getElem?_cons_succ, List.getElem?_cons_zero]; try exact rfl)); (case hw => rfl); (case hl => rfl); simp only [Act.put, List.setIfInBounds_toArray, List.set_cons_succ, List.set_cons_zero]))
    clear iw iw2
    apply wpR_nil
    apply hN
    intro w5 hE' hK _
    have hk := (hK 10).2
    have OS : Hid (Own 5 (w.heap.size + 4) w5 A6 c6 (betwK y.key x.key)) := by
      obtain ⟨A7, c7, n7, z7, e, _, _, ho⟩ := hk
      have e' : Value.tuple #[.slice A6 n6 c6, .bool z6] = Value.tuple #[.slice A7 n7 c7, .bool z7] := e
      simp only [Value.tuple.injEq, Array.mk.injEq, List.cons.injEq, Value.slice.injEq] at e'
      obtain ⟨⟨rfl, _, rfl⟩, _⟩ := e'
      exact Lib.hid (ho.mono h44)
    have hE5 := hEW.trans hE'
    have hEw := hE.trans hE5
    have b2 := hE5.blk B2.out
    have b3 := hE5.blk B3.out
    have d1 := hE5.blk D1.out
    have d2 := hE5.blk D2.out
    have o1 := O1.out.ext hE5
    have o2 := O2.out.ext hE5
    clear hK hN hk ez0 ez1 hEW hE' hW O1 O2 B2 B3 D1 D2
    have O1 := Lib.hid o1
    have O2 := Lib.hid o2
    clear o1 o2
    cases z6
    · have HQ := Lib.hid (show partB p q row n = none by
        rw [HQ0.out]
        have := HZ6.out
        cases h : betwB y.key x.key with
        | none => rfl
        | some s => rw [h] at this; cases this)
      go_wp2_with (first | (refine wpList_store_box rfl 26 (.tmp 8) _ rfl (w.heap.size + 1 + 1) _ rfl rfl 26 _ b2 (by kernel_rfl) rfl (by simp [Value.oneCell']) (fun w6 hb hg => ?_); have b3' := blk_other b3 hg (by omega); have hE6 := ext_only hEw hg (by omega); clear b3) | (refine wpList_store_box rfl 26 (.tmp 9) _ rfl (w.heap.size + 1 + 1 + 1) _ rfl rfl 26 _ b3' (by kernel_rfl) rfl (by simp [Value.oneCell']) (fun w7 hb' hg' => ?_)))
      refine bodyPost_ret (results_rrtt rfl _ _ _ _ _ _ _ _ _ _ _ _ rfl (blk_other hb hg' (by omega)) Try.underlying26 rfl (by kernel_rfl) rfl hb' Try.underlying26 rfl (by kernel_rfl)) rfl ⟨_, _, none, 0, by rw [HQ.out]; rfl, by rw [HQ.out]; exact PgO.zero _ _, ?_, ?_, ext_only hE6 hg' (by omega)⟩
      · rw [HQ.out]; exact PgO.zero _ _
      · rw [HQ.out]; exact ⟨rfl, .inl ⟨rfl, rfl⟩⟩
    · have HQ := Lib.hid (show partB p q row n = some ({ p with items := row.take n }, { q with items := row.drop n }, betwK y.key x.key) by
        rw [HQ0.out]
        have := HZ6.out
        cases h : betwB y.key x.key with
        | none => rw [h] at this; cases this
        | some s => rw [betwK_some h]; rfl)
      go_wp2
      refine wp_region_rg (Exc (fun k _ => k = w.heap.size + 1 + 1 ∨ k = w.heap.size + 1 + 1 + 1)) (rel_exc _) (fun w' => w'.heap[w.heap.size + 1 + 1]? = some (.cells #[.int .i64 0, .int .i64 0, .slice none 0 0, .slice none 0 0, .int .i64 0] 26) ∧ w'.heap[w.heap.size + 1 + 1 + 1]? = some (.cells #[.int .i64 0, .int .i64 0, .slice none 0 0, .slice none 0 0, .int .i64 0] 26)) [0, 1, 2, 3, 4, 5, 6] (fun _ => none) (fun i => match i with
        | 3 => some fun _ _ w' => w'.heap[w.heap.size + 1 + 1]? = some (.cells #[.int .i64 p.kind, .int .i64 p.level, .slice iA1 n1 ic1, .slice dA1 p.data.length dc1, .int .i64 p.next] 26) ∧ w'.heap[w.heap.size + 1 + 1 + 1]? = some (.cells #[.int .i64 0, .int .i64 0, .slice none 0 0, .slice none 0 0, .int .i64 0] 26)
        | 4 => some fun _ _ w' => w'.heap[w.heap.size + 1 + 1]? = some (.cells #[.int .i64 p.kind, .int .i64 p.level, .slice iA1 n1 ic1, .slice dA1 p.data.length dc1, .int .i64 p.next] 26) ∧ w'.heap[w.heap.size + 1 + 1 + 1]? = some (.cells #[.int .i64 q.kind, .int .i64 q.level, .slice iA2 n2 ic2, .slice dA2 q.data.length dc2, .int .i64 q.next] 26)
        | _ => none) (fun _ => false) (by kernel_rfl) (by kernel_rfl) (fun _ _ h he => ⟨he.blk h.1, he.blk h.2⟩) ⟨b2, b3⟩ (fun W N hW hF0 hN => ?_)
      have hEW : Exc (fun k _ => k = w.heap.size + 1 + 1 ∨ k = w.heap.size + 1 + 1 + 1) w5 W := Exc.of_ext hW
      have D1 := Lib.hid d1
      have D2 := Lib.hid d2
      clear b2 b3 d1 d2
      have x0 : ∀ w', Exc (fun k _ => k = w.heap.size + 1 + 1 ∨ k = w.heap.size + 1 + 1 + 1) w5 w' → w'.cell? ⟨g1, 0, none⟩ = some (.int .i64 p.kind) := fun w' h => cell_of_row _ _ _ _ _ _ (h.blk D1.out (by omega))
      have x1 : ∀ w', Exc (fun k _ => k = w.heap.size + 1 + 1 ∨ k = w.heap.size + 1 + 1 + 1) w5 w' → w'.cell? ⟨g1, 1, none⟩ = some (.int .i64 p.level) := fun w' h => cell_of_row _ _ _ _ _ _ (h.blk D1.out (by omega))
      have x2 : ∀ w', Exc (fun k _ => k = w.heap.size + 1 + 1 ∨ k = w.heap.size + 1 + 1 + 1) w5 w' → w'.cell? ⟨g1, 2, none⟩ = some (.slice iA1 n1 ic1) := fun w' h => cell_of_row _ _ _ _ _ _ (h.blk D1.out (by omega))
      have x3 : ∀ w', Exc (fun k _ => k = w.heap.size + 1 + 1 ∨ k = w.heap.size + 1 + 1 + 1) w5 w' → w'.cell? ⟨g1, 3, none⟩ = some (.slice dA1 p.data.length dc1) := fun w' h => cell_of_row _ _ _ _ _ _ (h.blk D1.out (by omega))
      have x4 : ∀ w', Exc (fun k _ => k = w.heap.size + 1 + 1 ∨ k = w.heap.size + 1 + 1 + 1) w5 w' → w'.cell? ⟨g1, 4, none⟩ = some (.int .i64 p.next) := fun w' h => cell_of_row _ _ _ _ _ _ (h.blk D1.out (by omega))
      have y0 : ∀ w', Exc (fun k _ => k = w.heap.size + 1 + 1 ∨ k = w.heap.size + 1 + 1 + 1) w5 w' → w'.cell? ⟨g2, 0, none⟩ = some (.int .i64 q.kind) := fun w' h => cell_of_row _ _ _ _ _ _ (h.blk D2.out (by omega))
      have y1 : ∀ w', Exc (fun k _ => k = w.heap.size + 1 + 1 ∨ k = w.heap.size + 1 + 1 + 1) w5 w' → w'.cell? ⟨g2, 1, none⟩ = some (.int .i64 q.level) := fun w' h => cell_of_row _ _ _ _ _ _ (h.blk D2.out (by omega))
      have y2 : ∀ w', Exc (fun k _ => k = w.heap.size + 1 + 1 ∨ k = w.heap.size + 1 + 1 + 1) w5 w' → w'.cell? ⟨g2, 2, none⟩ = some (.slice iA2 n2 ic2) := fun w' h => cell_of_row _ _ _ _ _ _ (h.blk D2.out (by omega))
      have y3 : ∀ w', Exc (fun k _ => k = w.heap.size + 1 + 1 ∨ k = w.heap.size + 1 + 1 + 1) w5 w' → w'.cell? ⟨g2, 3, none⟩ = some (.slice dA2 q.data.length dc2) := fun w' h => cell_of_row _ _ _ _ _ _ (h.blk D2.out (by omega))
      have y4 : ∀ w', Exc (fun k _ => k = w.heap.size + 1 + 1 ∨ k = w.heap.size + 1 + 1 + 1) w5 w' → w'.cell? ⟨g2, 4, none⟩ = some (.int .i64 q.next) := fun w' h => cell_of_row _ _ _ _ _ _ (h.blk D2.out (by omega))
      repeat (first | (apply wpR_one; (case ho => (simp only [List.getElem?_toArray, List.getElem?_cons_succ, List.getElem?_cons_zero]; try exact rfl)); (case hw => rfl); (case hl => rfl); (case hsp => rfl); (case he => rfl); (case hv => (intro w' hw'; (try (have hw2 := Ext.trans hEW hw')); (try (have hw3 := Exc.trans hEW hw')); (try (have hw4 := Exk.trans hEW hw')); (try (have hw5 := Mrk.trans hEW hw')); go_simp; exact rfl)); (case hw0 => (first | exact Below.refl _ _ | exact Exc.of_ext (Below.refl _ _) | exact Exk.of_ext (Below.refl _ _) | exact Mrk.of_ext (Below.refl _ _))); simp only [Act.put, List.setIfInBounds_toArray, List.set_cons_succ, List.set_cons_zero]) | (apply wpR_early; (case ho => (simp only [List.getElem?_toArray, List.getElem?_cons_succ, List.getElem?_cons_zero]; try exact rfl)); (case hw => rfl); (case hl => rfl); (case hsp => rfl); (case he => rfl); (case hv => (intro w' hw'; (try have hw2 := Ext.trans hEW hw'); go_simp; exact rfl)); simp only [Act.put, List.setIfInBounds_toArray, List.set_cons_succ, List.set_cons_zero]) | (apply wpR_pass; (case ho => (simp only [List.getElem?_toArray, List.getElem?_cons_succ, List.getElem?_cons_zero]; try exact rfl)); (case hw => rfl); (case hl => rfl); simp only [Act.put, List.setIfInBounds_toArray, List.set_cons_succ, List.set_cons_zero]))
      refine wpR_late (by ((simp only [List.getElem?_toArray, List.getElem?_cons_succ, List.getElem?_cons_zero]; try exact rfl))) _ rfl rfl (fun V v w' w2 h he => ⟨he.blk h.1, he.blk h.2⟩) (fun V V' h => rfl) (fun w' hw' hK hF => ?_) (fun v hv => ?_)
      · refine opAt_list rfl #[] (fun Q hQ => ?_)
        refine wpList_store_box rfl 26 _ _ rfl (w.heap.size + 1 + 1) _ rfl rfl 26 _ hF.1 (by kernel_rfl) rfl (by simp [Value.oneCell']) (fun w2 hb hg => ?_)
        exact hQ _ _ ⟨Exc.of_only hg (fun _ _ => .inl rfl), hb, blk_other hF.2 hg (by omega)⟩
      clear hv
      simp only [Act.put, List.setIfInBounds_toArray, List.set_cons_succ, List.set_cons_zero]
      refine wpR_late (by ((simp only [List.getElem?_toArray, List.getElem?_cons_succ, List.getElem?_cons_zero]; try exact rfl))) _ rfl rfl (fun V v w' w2 h he => ⟨he.blk h.1, he.blk h.2⟩) (fun V V' h => rfl) (fun w' hw' hK hF => ?_) (fun v hv => ?_)
      · refine opAt_list rfl #[] (fun Q hQ => ?_)
        refine wpList_store_box rfl 26 _ _ rfl (w.heap.size + 1 + 1 + 1) _ rfl rfl 26 _ hF.2 (by kernel_rfl) rfl (by simp [Value.oneCell']) (fun w2 hb hg => ?_)
        exact hQ _ _ ⟨Exc.of_only hg (fun _ _ => .inr rfl), blk_other hF.1 hg (by omega), hb⟩
      clear hv
      simp only [Act.put, List.setIfInBounds_toArray, List.set_cons_succ, List.set_cons_zero]
      repeat (first | (apply wpR_one; (case ho => (simp only [List.getElem?_toArray, List.getElem?_cons_succ, List.getElem?_cons_zero]; try exact rfl)); (case hw => rfl); (case hl => rfl); (case hsp => rfl); (case he => rfl); (case hv => (intro w' hw'; (try (have hw2 := Ext.trans hEW hw')); (try (have hw3 := Exc.trans hEW hw')); (try (have hw4 := Exk.trans hEW hw')); (try (have hw5 := Mrk.trans hEW hw')); go_simp; exact rfl)); (case hw0 => (first | exact Below.refl _ _ | exact Exc.of_ext (Below.refl _ _) | exact Exk.of_ext (Below.refl _ _) | exact Mrk.of_ext (Below.refl _ _))); simp only [Act.put, List.setIfInBounds_toArray, List.set_cons_succ, List.set_cons_zero]) | (apply wpR_early; (case ho => (simp only [List.getElem?_toArray, List.getElem?_cons_succ, List.getElem?_cons_zero]; try exact rfl)); (case hw => rfl); (case hl => rfl); (case hsp => rfl); (case he => rfl); (case hv => (intro w' hw'; (try have hw2 := Ext.trans hEW hw'); go_simp; exact rfl)); simp only [Act.put, List.setIfInBounds_toArray, List.set_cons_succ, List.set_cons_zero]) | (apply wpR_pass; (case ho => (simp only [List.getElem?_toArray, List.getElem?_cons_succ, List.getElem?_cons_zero]; try exact rfl)); (case hw => rfl); (case hl => rfl); simp only [Act.put, List.setIfInBounds_toArray, List.set_cons_succ, List.set_cons_zero]))
      apply wpR_nil
      apply hN
      intro w9 hE9 hK hF
      obtain ⟨r1, r2⟩ := hF
      have hx9 := hEW.trans hE9
      have hE' : Ext w w9 := hx9.to_ext hEw (fun k _ hk => by omega)
      have R1 := Lib.hid (hx9.pgo4 O1.out (fun k _ hk => by omega))
      have R2 := Lib.hid (hx9.pgo4 O2.out (fun k _ hk => by omega))
      have R3 := Lib.hid (ownsRow_exc OS.out hx9 (fun k cs h1 h2 => by omega))
      clear hK hN x0 x1 x2 x3 x4 y0 y1 y2 y3 y4 hEW hE9 hx9 hW hF0
      go_wp2
      refine bodyPost_ret (results_rrtt rfl _ _ _ _ _ _ _ _ _ _ _ _ rfl r1 Try.underlying26 rfl (by kernel_rfl) rfl r2 Try.underlying26 rfl (by kernel_rfl)) rfl ⟨_, _, _, _, by rw [HQ.out, HN6.out]; rfl, by rw [HQ.out]; exact R1.out.mono (by omega), ?_, ?_, hE'⟩
      · rw [HQ.out]; exact R2.out.mono (by omega)
      · rw [HQ.out]; exact ownsRow_mono R3.out (by omega)
end Go.Proofs.Ytjjbckdiojleeaa
