/- Words for the walk of NodeFresh. No condition but that what comes in lies in memory. -/
import Derived.Test.YtjjbckdiojleeaaRgq
import Derived.Test.YtjjbckdiojleeaaFsplit
import Derived.Test.YtjjbckdiojleeaaFlists
import Derived.Test.YtjjbckdiojleeaaFapart
import Derived.Test.YtjjbckdiojleeaaPgargs
import Derived.Test.YtjjbckdiojleeaaNput
import Derived.Test.YtjjbckdiojleeaaNjoin
import Derived.Test.YtjjbckdiojleeaaEqpg
import Derived.Test.YtjjbckdiojleeaaNworks
import Derived.Test.YtjjbckdiojleeaaFb
import Derived.Test.YtjjbckdiojleeaaFrapart
namespace Go.Proofs.Ytjjbckdiojleeaa.Q
set_option linter.unusedVariables false
open Go.RowKit Go.Proofs
def ItCell (C : Nat) (v : Value) (w : World) : Prop := ∃ g, v = .pointer (some ⟨g, 0, none⟩) ∧ C ≤ g ∧ ∃ cs, w.heap[g]? = some (.cells cs 51 (0, 0)) ∧ cs.size = 4
def PgCellE (C : Nat) (v : Value) (w : World) : Prop := PgCell C v w
theorem ItCell.lasts (C : Nat) (v : Value) : Lasts Ext (ItCell C v) := fun w w' ⟨g, h1, h2, cs, h3, h4⟩ hx => ⟨g, h1, h2, cs, hx.blk h3, h4⟩
theorem PgCell.lastsE (C : Nat) (v : Value) : Lasts Ext (PgCell C v) := fun w w' ⟨g, h1, h2, cs, h3, h4⟩ hx => ⟨g, h1, h2, cs, hx.blk h3, h4⟩
theorem PgO.lastsE (C : Nat) (p : Pg) (v : Value) : Lasts Ext fun w => PgO C w v p := fun w w' h hx => h.ext hx
theorem SOwn.lastsE (C : Nat) (bs : List UInt8) (v : Value) : Lasts Ext fun w => SOwn 5 C bs v w := fun w w' h hx => h.ext hx
theorem FreshIt.lastsE (C : Nat) (x : It) (v : Value) : Lasts Ext (FreshIt C x v) := fun w w' ⟨kA, kc, vA, vc, h1, h2, h3, h4⟩ hx => ⟨kA, kc, vA, vc, h1, h2.ext hx, h3.ext hx, h4⟩
theorem pg_row {B : Nat} {w : World} {v : Value} {p : Pg} (h : PgO B w v p) {g : Nat} (hg : ptrBlk' v = some g) : B ≤ g ∧ g < w.heap.size := by
  obtain ⟨iA, ic, dA, dc, ps, rfl, ho, _⟩ := h.ex
  exact World.ownsRow.lt ho.row g hg
theorem exT {w w' : World} {g : Nat} {cs : Array Value} {ty : TypeId} (hg : w.grownBy w' (some g)) (hc : w.heap[g]? = some (.cells cs ty (0, 0))) : Exc (fun k o => ∃ cs fr, o = Obj.cells cs ty fr) w w' :=
  Exc.of_only hg (fun o ho => by rw [hc] at ho; injection ho with ho; exact ⟨_, _, ho.symm⟩)
theorem PgO.stPg {B : Nat} {w w' : World} {v : Value} {p : Pg} {g : Nat} {cs : Array Value} (h : PgO B w v p) (hg : w.grownBy w' (some g)) (hc : w.heap[g]? = some (.cells cs 26 (0, 0))) : PgO B w' v p :=
  h.exc (exT hg hc) (fun k cs _ ⟨_, _, e⟩ => by injection e with _ e; exact absurd e (by decide)) (fun k cs _ ⟨_, _, e⟩ => by injection e with _ e; exact absurd e (by decide))
theorem SOwn.st {B : Nat} {w w' : World} {v : Value} {bs : List UInt8} {g : Nat} {cs : Array Value} {ty : TypeId} (h : SOwn 5 B bs v w) (hg : w.grownBy w' (some g)) (hc : w.heap[g]? = some (.cells cs ty (0, 0))) (hne : 5 ≠ ty) : SOwn 5 B bs v w' :=
  h.exc (exT hg hc) (fun k cs _ ⟨_, _, e⟩ => by injection e with _ e; exact hne e)
theorem FreshIt.st {B : Nat} {w w' : World} {v : Value} {x : It} {g : Nat} {cs : Array Value} {ty : TypeId} (h : FreshIt B x v w) (hg : w.grownBy w' (some g)) (hc : w.heap[g]? = some (.cells cs ty (0, 0))) (hne : 5 ≠ ty) : FreshIt B x v w' := by
  obtain ⟨kA, kc, vA, vc, h1, h2, h3, h4⟩ := h
  exact ⟨kA, kc, vA, vc, h1, ownsRow_exc h2 (exT hg hc) (fun k cs _ ⟨_, _, e⟩ => by injection e with _ e; exact hne e), ownsRow_exc h3 (exT hg hc) (fun k cs _ ⟨_, _, e⟩ => by injection e with _ e; exact hne e), h4⟩
theorem PgO.stIt {B : Nat} {w w' : World} {v : Value} {p : Pg} {g : Nat} {cs : Array Value} (h : PgO B w v p) (hg : w.grownBy w' (some g)) (hc : w.heap[g]? = some (.cells cs 51 (0, 0))) (hne : ptrBlk' v ≠ some g) : PgO B w' v p := by
  obtain ⟨iA, ic, dA, dc, ps, rfl, ho, hd, hn⟩ := h.ex
  have hx := exT hg hc
  refine ⟨iA, ic, dA, dc, ps, rfl, ⟨World.ownsRow.kept ho.row hg ?_, ho.each.exc hx (fun k cs _ ⟨_, _, e⟩ => by injection e with _ e; exact absurd e (by decide)), ho.apart⟩, ownsRow_exc hd hx (fun k cs _ ⟨_, _, e⟩ => by injection e with _ e; exact absurd e (by decide)), hn⟩
  cases hv : (Value.slice iA p.items.length ic).ownBlock with
  | none => exact .inl rfl
  | some k => exact .inr fun e => hne (by rw [← e]; exact hv)
/-- What is known behind the copies. -/
structure FrS (w0 w : World) (tc ic : Obj) (p q : Pg) (sep : List UInt8) (x : It) (v1 v2 v4 : Value) (sA : Option Addr) (sc gx gy gz : Nat) : Prop where
  e : Ext w0 w
  bt : w.heap[w0.heap.size]? = some tc
  bi : w.heap[w0.heap.size + 1]? = some ic
  px : PgO (w0.heap.size + 2) w v1 p
  py : PgO (w0.heap.size + 2) w v2 q
  ps_ : Own 5 (w0.heap.size + 2) w sA sc sep
  pz : FreshIt (w0.heap.size + 2) x v4 w
  bx : ∃ cs, v1 = .agg cs ∧ w.heap[gx]? = some (.cells cs 26 (0, 0))
  by_ : ∃ cs, v2 = .agg cs ∧ w.heap[gy]? = some (.cells cs 26 (0, 0))
  bz : ∃ cs, v4 = .agg cs ∧ w.heap[gz]? = some (.cells cs 51 (0, 0))
/-- The cells of a struct. -/
def vCells : Value → List Value
  | .agg cs => cs.toList
  | _ => []
theorem infoPg : (Try.prog.info? 26).map (fun i => (i.zero, i.size, i.bytes)) = some (some (.agg #[.int .i64 0, .int .i64 0, .slice none 0 0, .slice none 0 0, .int .i64 0]), 5, 72) := by kernel_rfl
/-- What the rounds have laid: pages and lists. -/
structure FrL (w0 w : World) (X : List (Value × Pg)) (Y : List (Value × List UInt8)) (An : Option Addr) (ny cn : Nat) (Ap : Option Addr) (nx cp : Nat) : Prop where
  e : Ext w0 w
  rn : w.ownsRow w0.heap.size 24 1 (.slice An ny cn) ny (Y.map (·.1))
  rp : w.ownsRow w0.heap.size 26 5 (.slice Ap nx cp) nx (X.flatMap fun a => vCells a.1)
  lot : Lot w0.heap.size w X Y
  bd : ∀ a ∈ X, BS 2097152 a.2
  bdy : ∀ y ∈ Y, y.2.length ≤ 1048576
theorem FrL.start (w : World) : FrL w w [] [] none 0 0 none 0 0 :=
  ⟨Below.refl _ _, World.ownsRow_nil _ _ _ _, World.ownsRow_nil _ _ _ _, Lot.nil _ _, (fun _ h => by cases h), (fun _ h => by cases h)⟩
def DL (B : Nat) : Nat → Obj → Prop := fun q o => B ≤ q ∧ ∃ cs fr, o = Obj.cells cs 24 fr
theorem DL.not8 {B k : Nat} {cs : Array Value} {fr : Nat × Nat} : ¬ DL B k (.cells cs 5 fr) := fun ⟨_, _, _, h⟩ => by injection h with _ h; exact absurd h (by decide)
theorem DL.notI {B k : Nat} {cs : Array Value} {fr : Nat × Nat} : ¬ DL B k (.cells cs 51 fr) := fun ⟨_, _, _, h⟩ => by injection h with _ h; exact absurd h (by decide)
/-- The list of lists, and the pages beside it. -/
structure LsA (w0 w W : World) (A : Option Addr) (n c : Nat) (xs : List Value) (Ap : Option Addr) (nx cp : Nat) (ys : List Value) : Prop where
  own : W.ownsRow w0.heap.size 24 1 (.slice A n c) n xs
  pg : W.ownsRow w0.heap.size 26 5 (.slice Ap nx cp) nx ys
  x : Exc (DL w0.heap.size) w W
section
variable {w0 w W W' : World} {A Ap : Option Addr} {n c nx cp : Nat} {xs ys : List Value}
theorem LsA.ext (h : LsA w0 w W A n c xs Ap nx cp ys) (he : Ext W W') : LsA w0 w W' A n c xs Ap nx cp ys := ⟨own_ext h.own he, own_ext h.pg he, h.x.trans (Exc.of_ext he)⟩
theorem LsA.push (h : LsA w0 w W A n c xs Ap nx cp ys) {A' : Option Addr} {c' m : Nat} {zs : List Value} (ho : W'.ownsRow w0.heap.size 24 1 (.slice A' m c') m zs)
    {row : Option Nat} (hg : W.grownBy W' row) (hr : ∀ q, row = some q → w0.heap.size ≤ q ∧ ∃ cs, W.heap[q]? = some (.cells cs 24 (0, 0))) : LsA w0 w W' A' m c' zs Ap nx cp ys :=
  ⟨ho, keep_row hg hr (by decide) _ _ _ h.pg, h.x.trans (Exc.of_grown (D := DL w0.heap.size) hg (fun g o h1 h2 => by obtain ⟨hb, cs, hc⟩ := hr g h1; rw [hc] at h2; injection h2 with h2; exact ⟨hb, cs, _, h2.symm⟩))⟩
end
theorem flat5 {α : Type} {f : α → List Value} (hf : ∀ d, (f d).length = 5) : ∀ (ds : List α) (k j : Nat) (d : α), ds[k]? = some d → j < 5 → (ds.flatMap f)[k * 5 + j]? = (f d)[j]?
  | [], k, j, d, h, _ => by simp at h
  | e :: ds, 0, j, d, h, hj => by
    simp only [List.getElem?_cons_zero, Option.some.injEq] at h
    subst h
    rw [List.flatMap_cons, Nat.zero_mul, Nat.zero_add, List.getElem?_append_left (by rw [hf]; exact hj)]
  | e :: ds, k + 1, j, d, h, hj => by
    simp only [List.getElem?_cons_succ] at h
    rw [List.flatMap_cons, List.getElem?_append_right (by rw [hf]; omega), hf, show (k + 1) * 5 + j - 5 = k * 5 + j by omega]
    exact flat5 hf ds k j d h hj
abbrev c5 (d : PgD) : List Value := [.int .i64 d.p.kind, .int .i64 d.p.level, d.row, d.dat, .int .i64 d.p.next]
theorem len_flat (ps : List (Value × Value)) : (flat ps).length = 2 * ps.length := by
  induction ps with
  | nil => rfl
  | cons p ps ih => simp only [flat, List.flatMap_cons, List.length_append, List.length_cons, List.length_nil] at ih ⊢; omega
theorem PgD.Ok.len {B : Nat} {w : World} {d : PgD} (h : d.Ok B w) : d.bytes.length = 1 + 2 * d.p.items.length := by
  have := h.its.each.length
  simp only [PgD.bytes, List.length_cons, len_flat]
  omega
theorem bytes_len {ds : List PgD} (h : ∀ d ∈ ds, d.bytes.length ≤ 4194305) : (ds.flatMap PgD.bytes).length ≤ ds.length * 4194305 := by
  induction ds with
  | nil => simp
  | cons d ds ih =>
    have h1 := h d (List.mem_cons_self ..)
    have h2 := ih (fun e he => h e (List.mem_cons_of_mem _ he))
    simp only [List.flatMap_cons, List.length_append, List.length_cons]
    omega
theorem row_fit {W : World} {B : Nat} {e : TypeId} {size n c : Nat} {A : Option Addr} {xs : List Value} (h : W.ownsRow B e size (.slice A n c) n xs) (hn : 0 < n) : ∃ (g : Nat) (cur : Array Value), A = some ⟨g, 0, none⟩ ∧ W.heap[g]? = some (.cells cur e (0, 0)) ∧ n ≤ c ∧ ∀ (j : Nat) (u : Value), xs[j]? = some u → cur[j]? = some u := by
  have hl := h.1
  rcases h.2 with ⟨hv, h0⟩ | ⟨g, cap, cur, hv, hb, hg, hle, hm, hs, ht⟩
  · injection hv with _ h1; omega
  · injection hv with h1 _ h3
    subst h1 h3
    refine ⟨g, cur, rfl, hg, hle, fun j u hj => ?_⟩
    rw [← ht, List.getElem?_take] at hj
    split at hj
    · rw [← Array.getElem?_toList]; exact hj
    · cases hj
def toHd : Value → Hd
  | .slice A k c => ⟨A, k, c⟩
  | _ => ⟨none, 0, 0⟩
theorem apart_map {L : List Value} {hs : List Hd} (hp : L.Pairwise NoShare) (hv : ∀ (j : Nat) (h : Hd), hs[j]? = some h → L[j]? = some h.v) : ApartH hs := by
  have key : ∀ (j1 j2 : Nat) (h1 h2 : Hd), hs[j1]? = some h1 → hs[j2]? = some h2 → j1 < j2 → NoShare h1.v h2.v := fun j1 j2 h1 h2 e1 e2 hlt => by
    have k1 := hv j1 h1 e1
    have k2 := hv j2 h2 e2
    obtain ⟨l1, k1⟩ := List.getElem?_eq_some_iff.1 k1
    obtain ⟨l2, k2⟩ := List.getElem?_eq_some_iff.1 k2
    rw [← k1, ← k2]
    exact List.pairwise_iff_getElem.1 hp j1 j2 l1 l2 hlt
  intro j1 j2 h1 h2 q e1 e2 hne hq
  rcases Nat.lt_or_gt_of_ne hne with hlt | hlt
  · exact key j1 j2 h1 h2 e1 e2 hlt q hq
  · exact fun h => key j2 j1 h2 h1 e2 e1 hlt q h hq
theorem hds_of {W : World} {B : Nat} {L : List Value} (hall : ∀ u ∈ L, ∃ bs, SOwn 5 B bs u W ∧ bs.length ≤ 1048576) : ∀ (j : Nat) (h : Hd), (L.map toHd)[j]? = some h → L[j]? = some h.v ∧ h.k ≤ 1048576 ∧ ∃ xs, W.ownsRow B 5 1 h.v h.k xs := fun j h hj => by
  rw [List.getElem?_map] at hj
  obtain ⟨u, hu, rfl⟩ := Option.map_eq_some_iff.1 hj
  obtain ⟨bs, ⟨A, c, rfl, ho⟩, hb⟩ := hall u (List.mem_of_getElem? hu)
  exact ⟨hu, hb, _, ho⟩
theorem own_exc2 {D : Nat → Obj → Prop} {B : Nat} {w w' : World} {e : TypeId} {size n : Nat} {v : Value} {xs : List Value} (h : w.ownsRow B e size v n xs) (hx : Exc D w w') (hd : ∀ k cs, k < w.heap.size → ¬ D k (.cells cs e (0, 0))) : w'.ownsRow B e size v n xs := by
  refine ⟨h.1, ?_⟩
  rcases h.2 with h0 | ⟨g, cap, cur, hv, hb, hg, r⟩
  · exact .inl h0
  · exact .inr ⟨g, cap, cur, hv, hb, hx.blk hg (hd g cur (Array.getElem?_eq_some_iff.1 hg).1), r⟩
theorem each_mem {B : Nat} {w : World} : ∀ {ps : List (Value × Value)} {xs : List It}, OwnEach B w ps xs → (∀ x ∈ xs, BI x) → ∀ a ∈ flat ps, ∃ bs, SOwn 5 B bs a w ∧ bs.length ≤ 1048576
  | [], [], _, _, a, ha => by simp [flat] at ha
  | p :: ps, x :: xs, h, hb, a, ha => by
    simp only [flat, List.flatMap_cons, List.mem_append, List.mem_cons, List.not_mem_nil, or_false] at ha
    have hx := hb x (List.mem_cons_self ..)
    rcases ha with (rfl | rfl) | ha
    · exact ⟨_, h.1, hx.k⟩
    · exact ⟨_, h.2.1, hx.v⟩
    · exact each_mem h.2.2 (fun y hy => hb y (List.mem_cons_of_mem _ hy)) a (by simpa [flat] using ha)
  | [], x :: xs, h, _, _, _ => h.elim
  | p :: ps, [], h, _, _, _ => h.elim
theorem bytes_mem {B n : Nat} {w : World} {d : PgD} (h : d.Ok B w) (hb : BS n d.p) : ∀ a ∈ d.bytes, ∃ bs, SOwn 5 B bs a w ∧ bs.length ≤ 1048576 := fun a ha => by
  rcases List.mem_cons.1 ha with rfl | ha
  · exact ⟨_, ⟨_, _, rfl, h.dat⟩, hb.d⟩
  · exact each_mem h.its.each hb.each a ha
theorem DA.item {B : Nat} {w : World} {k : Nat} {cs : Array Value} (hk : k < w.heap.size) : ¬ DA B w k (.cells cs 51 (0, 0)) := fun h => by
  rcases h with ⟨_, _, _, e⟩ | h
  · injection e with _ e; exact absurd e (by decide)
  · omega
theorem DA.page {B : Nat} {w : World} {k : Nat} {cs : Array Value} (hk : k < w.heap.size) : ¬ DA B w k (.cells cs 26 (0, 0)) := fun h => by
  rcases h with ⟨_, _, _, e⟩ | h
  · injection e with _ e; exact absurd e (by decide)
  · omega
end Go.Proofs.Ytjjbckdiojleeaa.Q
