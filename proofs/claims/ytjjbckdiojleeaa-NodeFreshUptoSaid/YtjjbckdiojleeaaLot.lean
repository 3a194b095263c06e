/- Pages and lists of a call's own that lie apart from one another: plain laws. No condition. -/
import Derived.Test.YtjjbckdiojleeaaNpart
namespace Go.Proofs.Ytjjbckdiojleeaa
open Go.RowKit Go.Proofs
set_option linter.unusedVariables false
/-- A page, and where its parts lie. -/
structure PgD where
  p : Pg
  iA : Option Addr
  ic : Nat
  dA : Option Addr
  dc : Nat
  ps : List (Value × Value)
abbrev PgD.row (d : PgD) : Value := .slice d.iA d.p.items.length d.ic
abbrev PgD.dat (d : PgD) : Value := .slice d.dA d.p.data.length d.dc
def PgD.bytes (d : PgD) : List Value := d.dat :: flat d.ps
abbrev PgD.v (d : PgD) : Value := .agg #[.int .i64 d.p.kind, .int .i64 d.p.level, d.row, d.dat, .int .i64 d.p.next]
structure PgD.Ok (B : Nat) (w : World) (d : PgD) : Prop where
  its : OwnIts B w d.iA d.ic d.p.items d.ps
  dat : Own 5 B w d.dA d.dc d.p.data
/-- These pages and lists are the call's own and lie apart. -/
structure Lot (B : Nat) (w : World) (X : List (Value × Pg)) (Y : List (Value × List UInt8)) : Prop where
  mk_ ::
  ex : ∃ ds : List PgD, ds.map (fun d => (d.v, d.p)) = X ∧ (∀ d ∈ ds, d.Ok B w) ∧ (∀ y ∈ Y, SOwn 5 B y.2 y.1 w) ∧ (ds.flatMap PgD.bytes ++ Y.map (·.1)).Pairwise NoShare ∧ (ds.map PgD.row).Pairwise NoShare
theorem PgD.Ok.exc {D : Nat → Obj → Prop} {B : Nat} {w w' : World} {d : PgD} (h : d.Ok B w) (hx : Exc D w w') (hd : ∀ k cs, B ≤ k → ¬ D k (.cells cs 5 (0, 0))) (hd2 : ∀ k cs, B ≤ k → ¬ D k (.cells cs 51 (0, 0))) : d.Ok B w' :=
  ⟨h.its.exc hx hd hd2, ownsRow_exc h.dat hx hd⟩
theorem PgD.Ok.mono {B B' : Nat} {w : World} {d : PgD} (h : d.Ok B w) (hB : B' ≤ B) : d.Ok B' w := ⟨h.its.mono hB, h.dat.mono hB⟩
theorem SOwn.mono_ {B B' : Nat} {w : World} {bs : List UInt8} {v : Value} (h : SOwn 5 B bs v w) (hB : B' ≤ B) : SOwn 5 B' bs v w := by
  obtain ⟨A, c, h1, h2⟩ := h
  exact ⟨A, c, h1, h2.mono hB⟩
theorem SOwn.lt {B : Nat} {w : World} {bs : List UInt8} {v : Value} (h : SOwn 5 B bs v w) {g : Nat} (hg : v.ownBlock = some g) : B ≤ g ∧ g < w.heap.size := by
  obtain ⟨A, c, rfl, h2⟩ := h
  exact World.ownsRow.lt h2 g hg
section
variable {B B' : Nat} {w w' : World} {X X' : List (Value × Pg)} {Y Y' : List (Value × List UInt8)}
theorem Lot.exc {D : Nat → Obj → Prop} (h : Lot B w X Y) (hx : Exc D w w') (hd : ∀ k cs, B ≤ k → ¬ D k (.cells cs 5 (0, 0))) (hd2 : ∀ k cs, B ≤ k → ¬ D k (.cells cs 51 (0, 0))) : Lot B w' X Y := by
  obtain ⟨ds, h1, h2, h3, h4, h5⟩ := h.ex
  exact ⟨ds, h1, fun d hm => (h2 d hm).exc hx hd hd2, fun y hm => (h3 y hm).exc hx hd, h4, h5⟩
theorem Lot.ext (h : Lot B w X Y) (he : Ext w w') : Lot B w' X Y := h.exc (D := fun _ _ => False) (Exc.of_ext he) (fun _ _ _ h => h) (fun _ _ _ h => h)
theorem Lot.mono (h : Lot B w X Y) (hB : B' ≤ B) : Lot B' w X Y := by
  obtain ⟨ds, h1, h2, h3, h4, h5⟩ := h.ex
  exact ⟨ds, h1, fun d hm => (h2 d hm).mono hB, fun y hm => (h3 y hm).mono_ hB, h4, h5⟩
theorem Lot.only {g : Nat} (h : Lot B w X Y) (hg : w.grownBy w' (some g)) (hb : g < B) : Lot B w' X Y :=
  h.exc (Exc.of_only (D := fun q _ => q = g) hg (fun _ _ => rfl)) (fun k cs h1 h2 => by omega) (fun k cs h1 h2 => by omega)
theorem Lot.exc4 {D : Nat → Obj → Prop} (hx : Exc D w w') (h : Lot B w X Y) (hd : ∀ k o, D k o → k < B) : Lot B w' X Y := h.exc hx (fun k cs h1 h2 => by have := hd _ _ h2; omega) (fun k cs h1 h2 => by have := hd _ _ h2; omega)
theorem Lot.lastsK {C : Nat} (X : List (Value × Pg)) (Y : List (Value × List UInt8)) : Lasts (Exk (PgBlk C)) fun w => Lot C w X Y := fun w w' h hx => h.exc hx.x (fun k cs h1 => PgBlk.not8) (fun k cs h1 => PgBlk.notI)
theorem Lot.lasts {D : Nat → Obj → Prop} {C : Nat} (hd : ∀ k o, D k o → k < C) (X : List (Value × Pg)) (Y : List (Value × List UInt8)) : Lasts (Exc D) fun w => Lot C w X Y := fun w w' h hx => Lot.exc4 hx h hd
theorem Lot.pgo (h : Lot B w X Y) {v : Value} {p : Pg} (hm : (v, p) ∈ X) : PgO B w v p := by
  obtain ⟨ds, h1, h2, h3, h4, h5⟩ := h.ex
  rw [← h1] at hm
  obtain ⟨d, hd, he⟩ := List.mem_map.1 hm
  injection he with e1 e2
  subst e1 e2
  have hk := h2 d hd
  refine ⟨d.iA, d.ic, d.dA, d.dc, d.ps, rfl, hk.its, hk.dat, fun a ha => ?_⟩
  have h6 := (List.pairwise_append.1 h4).1
  have h7 : d.bytes.Pairwise NoShare := by
    obtain ⟨s, t, rfl⟩ := List.append_of_mem hd
    rw [List.flatMap_append, List.flatMap_cons] at h6
    exact (List.pairwise_append.1 (List.pairwise_append.1 h6).2.1).1
  exact (List.pairwise_cons.1 h7).1 a ha
theorem Lot.own (h : Lot B w X Y) {v : Value} {bs : List UInt8} (hm : (v, bs) ∈ Y) : SOwn 5 B bs v w := by
  obtain ⟨ds, h1, h2, h3, h4, h5⟩ := h.ex
  exact h3 _ hm
theorem Lot.nil (B : Nat) (w : World) : Lot B w [] [] := ⟨[], rfl, (fun _ h => by cases h), (fun _ h => by cases h), by simp, by simp⟩
theorem Lot.of_pgo {v : Value} {p : Pg} (h : PgO B w v p) : Lot B w [(v, p)] [] := by
  obtain ⟨iA, ic, dA, dc, ps, h1, h2, h3, h4⟩ := h.ex
  subst h1
  refine ⟨[⟨p, iA, ic, dA, dc, ps⟩], rfl, fun d hm => ?_, (fun _ h => by cases h), ?_, by simp⟩
  · rw [List.mem_singleton.1 hm]
    exact ⟨h2, h3⟩
  · simp only [List.flatMap_cons, List.flatMap_nil, List.append_nil, List.map_nil]
    exact List.pairwise_cons.2 ⟨h4, h2.apart⟩
theorem Lot.of_own {v : Value} {bs : List UInt8} (h : SOwn 5 B bs v w) : Lot B w [] [(v, bs)] := by
  refine ⟨[], rfl, (fun _ h => by cases h), fun y hm => ?_, by simp, by simp⟩
  rw [List.mem_singleton.1 hm]; exact h
theorem PgD.Ok.lt {d : PgD} (h : d.Ok B w) {a : Value} (ha : a ∈ d.bytes) {g : Nat} (hg : a.ownBlock = some g) : B ≤ g ∧ g < w.heap.size := by
  rcases List.mem_cons.1 ha with rfl | ha
  · exact World.ownsRow.lt h.dat g hg
  · obtain ⟨bs, hs⟩ := h.its.each.mem a ha
    exact hs.lt hg
/-- What is made later lies apart. -/
theorem Lot.join (h : Lot B w X Y) (he : Ext w w') (k : Lot w.heap.size w' X' Y') (hB : B ≤ w.heap.size) : Lot B w' (X ++ X') (Y ++ Y') := by
  have h' := h.ext he
  obtain ⟨ds, h1, h2, h3, h4, h5⟩ := h.ex
  obtain ⟨es, k1, k2, k3, k4, k5⟩ := k.ex
  have cross : ∀ a, (∃ d ∈ ds, a ∈ d.bytes) ∨ (∃ y ∈ Y, a = y.1) → ∀ g, a.ownBlock = some g → g < w.heap.size := by
    rintro a (⟨d, hd, ha⟩ | ⟨y, hy, rfl⟩) g hg
    · exact ((h2 d hd).lt ha hg).2
    · exact ((h3 y hy).lt hg).2
  have cross' : ∀ a, (∃ d ∈ es, a ∈ d.bytes) ∨ (∃ y ∈ Y', a = y.1) → ∀ g, a.ownBlock = some g → w.heap.size ≤ g := by
    rintro a (⟨d, hd, ha⟩ | ⟨y, hy, rfl⟩) g hg
    · exact ((k2 d hd).lt ha hg).1
    · exact ((k3 y hy).lt hg).1
  have hx : ∀ ds : List PgD, ∀ Y : List (Value × List UInt8), ∀ a, a ∈ ds.flatMap PgD.bytes ++ Y.map (·.1) → (∃ d ∈ ds, a ∈ d.bytes) ∨ (∃ y ∈ Y, a = y.1) := by
    intro ds Y a ha
    rcases List.mem_append.1 ha with ha | ha
    · obtain ⟨d, hd, ha⟩ := List.mem_flatMap.1 ha
      exact .inl ⟨d, hd, ha⟩
    · obtain ⟨y, hy, rfl⟩ := List.mem_map.1 ha
      exact .inr ⟨y, hy, rfl⟩
  refine ⟨ds ++ es, by rw [List.map_append, h1, k1], fun d hm => ?_, fun y hm => ?_, ?_, ?_⟩
  · rcases List.mem_append.1 hm with hm | hm
    · exact (h2 d hm).exc (D := fun _ _ => False) (Exc.of_ext he) (fun _ _ _ h => h) (fun _ _ _ h => h)
    · exact (k2 d hm).mono hB
  · rcases List.mem_append.1 hm with hm | hm
    · exact h'.own hm
    · exact (k3 y hm).mono_ hB
  · rw [List.flatMap_append, List.map_append]
    have hp : (ds.flatMap PgD.bytes ++ Y.map (·.1) ++ (es.flatMap PgD.bytes ++ Y'.map (·.1))).Pairwise NoShare :=
      List.pairwise_append.2 ⟨h4, k4, fun a ha b hb g hg hg' => by
        have e1 := cross a (hx _ _ a ha) g hg
        have e2 := cross' b (hx _ _ b hb) g hg'
        omega⟩
    refine (List.Perm.pairwise_iff (fun h => h.symm) ?_).1 hp
    rw [List.append_assoc, List.append_assoc]
    refine List.Perm.append_left _ ?_
    rw [← List.append_assoc, ← List.append_assoc]
    exact List.Perm.append_right _ List.perm_append_comm
  · rw [List.map_append]
    refine List.pairwise_append.2 ⟨h5, k5, fun a ha b hb g hg hg' => ?_⟩
    obtain ⟨d, hd, rfl⟩ := List.mem_map.1 ha
    obtain ⟨e, hm, rfl⟩ := List.mem_map.1 hb
    have e1 := (World.ownsRow.lt (h2 d hd).its.row g hg).2
    have e2 := (World.ownsRow.lt (k2 e hm).its.row g hg').1
    omega
end
/-- What a division of a row answers: two pages and a separator. -/
abbrev Tri (B : Nat) (w : World) (v1 : Value) (p1 : Pg) (v2 : Value) (p2 : Pg) (s : Value) (bs : List UInt8) : Prop := Lot B w [(v1, p1), (v2, p2)] [(s, bs)]
abbrev Two (B : Nat) (w : World) (v1 : Value) (p1 : Pg) (v2 : Value) (p2 : Pg) : Prop := Lot B w [(v1, p1), (v2, p2)] []
theorem Tri.zero (B : Nat) (w : World) : Tri B w (.agg #[.int .i64 0, .int .i64 0, .slice none 0 0, .slice none 0 0, .int .i64 0]) Pg.zero (.agg #[.int .i64 0, .int .i64 0, .slice none 0 0, .slice none 0 0, .int .i64 0]) Pg.zero (.slice none 0 0) [] := by
  have hok : (⟨Pg.zero, none, 0, none, 0, []⟩ : PgD).Ok B w := ⟨OwnIts.nil B w, ⟨rfl, .inl ⟨rfl, rfl⟩⟩⟩
  refine ⟨[⟨Pg.zero, none, 0, none, 0, []⟩, ⟨Pg.zero, none, 0, none, 0, []⟩], rfl, fun d' hm => ?_, fun y hm => ?_, ?_, ?_⟩
  · simp only [List.mem_cons, List.not_mem_nil, or_false, or_self] at hm
    subst hm
    exact hok
  · rw [List.mem_singleton.1 hm]; exact SOwn.nil _ _ _
  · show List.Pairwise NoShare [.slice none 0 0, .slice none 0 0, .slice none 0 0]
    refine List.pairwise_cons.2 ⟨(fun a _ g hg => by cases hg), List.pairwise_cons.2 ⟨(fun a _ g hg => by cases hg), List.pairwise_cons.2 ⟨(fun a _ g hg => by cases hg), List.Pairwise.nil⟩⟩⟩
  · show List.Pairwise NoShare [.slice none 0 0, .slice none 0 0]
    exact List.pairwise_cons.2 ⟨(fun a _ g hg => by cases hg), List.pairwise_cons.2 ⟨(fun a _ g hg => by cases hg), List.Pairwise.nil⟩⟩
/-- Both pages, each on its own. -/
theorem Two.mk {B : Nat} {w w' : World} {v1 v2 : Value} {p1 p2 : Pg} (h : PgO B w v1 p1) (he : Ext w w') (k : PgO w.heap.size w' v2 p2) (hB : B ≤ w.heap.size) : Two B w' v1 p1 v2 p2 := (Lot.of_pgo h).join he (Lot.of_pgo k) hB
theorem Two.tri {B : Nat} {w w' : World} {v1 v2 : Value} {p1 p2 : Pg} {A : Option Addr} {c : Nat} {bs : List UInt8} (h : Two B w v1 p1 v2 p2) (he : Ext w w') (k : Own 5 w.heap.size w' A c bs) (hB : B ≤ w.heap.size) : Tri B w' v1 p1 v2 p2 (.slice A bs.length c) bs :=
  h.join he (Lot.of_own ⟨A, c, rfl, k⟩) hB
theorem Two.open_ {B : Nat} {w : World} {v1 v2 : Value} {p1 p2 : Pg} (h : Two B w v1 p1 v2 p2) : ∃ d1 d2 : PgD, v1 = d1.v ∧ p1 = d1.p ∧ v2 = d2.v ∧ p2 = d2.p ∧ d1.Ok B w ∧ d2.Ok B w ∧ (d1.bytes ++ d2.bytes).Pairwise NoShare ∧ NoShare d1.row d2.row := by
  obtain ⟨ds, e, h2, h3, h4, h5⟩ := h.ex
  rcases ds with _ | ⟨d1, _ | ⟨d2, _ | ⟨d3, ds⟩⟩⟩
  · simp at e
  · simp at e
  · simp only [List.map_cons, List.map_nil, List.cons.injEq, Prod.mk.injEq, and_true] at e
    refine ⟨d1, d2, e.1.1.symm, e.1.2.symm, e.2.1.symm, e.2.2.symm, h2 _ (by simp), h2 _ (by simp), by simpa using h4, by simpa using h5⟩
  · simp at e
theorem Tri.mk3 {B : Nat} {w : World} {d1 d2 : PgD} {s : Value} {bs : List UInt8} (h1 : d1.Ok B w) (h2 : d2.Ok B w) (hs : SOwn 5 B bs s w) (hp : (d1.bytes ++ d2.bytes ++ [s]).Pairwise NoShare) (hr : NoShare d1.row d2.row) : Tri B w d1.v d1.p d2.v d2.p s bs :=
  ⟨[d1, d2], rfl, fun d hm => by
    simp only [List.mem_cons, List.not_mem_nil, or_false] at hm
    rcases hm with rfl | rfl
    · exact h1
    · exact h2, fun y hm => by rw [List.mem_singleton.1 hm]; exact hs, by simpa using hp, by simpa using hr⟩
end Go.Proofs.Ytjjbckdiojleeaa
