/- Contract of node.parted: its answers lie apart. No condition but that what comes in lies in memory. -/
import Derived.Test.YtjjbckdiojleeaaLot
import Derived.Test.YtjjbckdiojleeaaSpang
import Derived.IntWalk
namespace Go.Proofs.Ytjjbckdiojleeaa
set_option linter.unusedVariables false
open Go.RowKit Go.Proofs
/-- What is known behind the region in which parted makes both pages. -/
structure PartT (w0 w : World) (p q : Pg) (row : List It) (n : Nat) (v1 v2 : Value) (g1 g2 : Nat) : Prop where
  e : Ext w0 w
  b0 : ∃ iA ic dA dc, w.heap[w0.heap.size]? = some (.cells #[.int .i64 p.kind, .int .i64 p.level, .slice iA p.items.length ic, .slice dA p.data.length dc, .int .i64 p.next] 26)
  b2 : w.heap[w0.heap.size + 1 + 1]? = some (.cells #[.int .i64 0, .int .i64 0, .slice none 0 0, .slice none 0 0, .int .i64 0] 26)
  b3 : w.heap[w0.heap.size + 1 + 1 + 1]? = some (.cells #[.int .i64 0, .int .i64 0, .slice none 0 0, .slice none 0 0, .int .i64 0] 26)
  tt : Two (w0.heap.size + 4) w v1 { p with items := row.take n } v2 { q with items := row.drop n }
  s1 : StoredAt (w0.heap.size + 4) v1 (.pointer (some ⟨g1, 0, none⟩)) w
  s2 : StoredAt (w0.heap.size + 4) v2 (.pointer (some ⟨g2, 0, none⟩)) w
  ne : g1 ≠ g2
set_option maxHeartbeats 4000000 in
theorem parted_tri {v u : Value} {p q : Pg} {A : Option Addr} {c m n : Nat} {row : List It} {w : World} (hv : PgV w v p) (hu : PgV w u q) (hr : Its w A c row) (hm : m = row.length) (h1 : 1 ≤ n) (h2 : n < row.length) :
    Calls Try.prog 56 #[v, u, .slice A m c, .int .i64 (n : Nat)] w fun e w' => ∃ v1 v2 A' c', e = .returned (.tuple #[v1, v2, .slice A' (part3 (partB p q row n)).length c', .bool (partB p q row n).isSome]) ∧
      Tri w.heap.size w' v1 (part1 (partB p q row n)) v2 (part2 (partB p q row n)) (.slice A' (part3 (partB p q row n)).length c') (part3 (partB p q row n)) ∧ Ext w w' := by
  subst hm
  obtain ⟨iA, ic, dA, dc, rfl, hi, hd⟩ := hv.ex
  obtain ⟨jA, jc, cA, cc, rfl, hj, hcd⟩ := hu.ex
  have hrl := hr.len
  go_enter Try.func56, Try.ntmps56
  go_wp2_with fail
  refine calls_cut (fun W => Ext w W ∧ W.heap[w.heap.size]? = some (.cells #[.int .i64 p.kind, .int .i64 p.level, .slice iA p.items.length ic, .slice dA p.data.length dc, .int .i64 p.next] 26) ∧
    W.heap[w.heap.size + 1]? = some (.cells #[.int .i64 q.kind, .int .i64 q.level, .slice jA q.items.length jc, .slice cA q.data.length cc, .int .i64 q.next] 26) ∧
    W.heap[w.heap.size + 1 + 1]? = some (.cells #[.int .i64 0, .int .i64 0, .slice none 0 0, .slice none 0 0, .int .i64 0] 26) ∧
    W.heap[w.heap.size + 1 + 1 + 1]? = some (.cells #[.int .i64 0, .int .i64 0, .slice none 0 0, .slice none 0 0, .int .i64 0] 26)) ⟨((ext_alloc _ _).trans (ext_alloc _ _)).trans ((ext_alloc _ _).trans (ext_alloc _ _)), (ext_alloc _ _).blk ((ext_alloc _ _).blk (heap_alloc2_old _ _ _)), (ext_alloc _ _).blk ((ext_alloc _ _).blk (heap_alloc2_new _ _ _)), (ext_alloc _ _).blk (heap_alloc_at _ _ _ (by simp)), heap_alloc_at _ _ _ (by simp)⟩ ?_
  rintro w1 ⟨hE, hb0, hb1, hb2, hb3⟩
  refine (parts_any (hr.ext hE) rfl (by omega)).mono ?_
  rintro e w3 ⟨_, rfl, hT0, hE1⟩
  obtain ⟨A', c', rfl, hT⟩ := hT0 w hr
  clear hT0
  have HB0 := Lib.hid (hE1.blk hb0)
  have HB1 := Lib.hid (hE1.blk hb1)
  have HB2 := Lib.hid (hE1.blk hb2)
  have HB3 := Lib.hid (hE1.blk hb3)
  have hE3 := hE.trans hE1
  have hw3 : w.heap.size + 3 < w3.heap.size := (Array.getElem?_eq_some_iff.1 HB3.out).1
  clear hb0 hb1 hb2 hb3 hE hE1
  have HT := Lib.hid (show (row.take n).length = n by simp; omega)
  have HD := Lib.hid (show (row.drop n).length = row.length - n by simp)
  go_wp2
  refine wp_region_rg (Exk (PgBlk w3.heap.size)) (rel_exk _) (fun _ => True) [0, 1, 2, 3, 4, 5, 6, 7, 8, 9, 10, 11] (fun i => match i with
    | 2 => some fun V => Built 23 w3.heap.size #[V 1]
    | 3 => some fun V v w' => PgO w3.heap.size w' v { p with items := row.take n }
    | 6 => some fun V => Built 23 w3.heap.size #[V 5]
    | 7 => some fun V v w' => Two w3.heap.size w' (V 3) { p with items := row.take n } v { q with items := row.drop n }
    | 8 => some fun V => PgCell w3.heap.size
    | 9 => some fun V => PgCell w3.heap.size
    | _ => none) (fun i => match i with
    | 10 => some fun V _ => StoredAt w3.heap.size (V 3) (V 8)
    | 11 => some fun V _ => Stored2 w3.heap.size (V 3) (V 8) (V 7) (V 9)
    | _ => none) (fun _ => false) (by kernel_rfl) (by kernel_rfl) (fun _ _ h he => trivial) trivial (fun W N hW hF0 hN => ?_)
  have hEW : Exk (PgBlk w3.heap.size) w3 W := Exk.of_ext hW
  have hX : ∀ w', Exk (PgBlk w3.heap.size) W w' → Ext w w' := fun w' h => (Exk.trans hEW h).x.to_ext hE3 (fun k _ hk => by have := hk.1; omega)
  have ea0 : ∀ w', Exk (PgBlk w3.heap.size) w3 w' → w'.cell? ⟨w.heap.size, 0, none⟩ = some (.int .i64 p.kind) := fun w' h => cell_of_row _ _ _ _ _ _ (h.x.blk HB0.out (PgBlk.notLt (by omega)))
  have ea1 : ∀ w', Exk (PgBlk w3.heap.size) w3 w' → w'.cell? ⟨w.heap.size, 1, none⟩ = some (.int .i64 p.level) := fun w' h => cell_of_row _ _ _ _ _ _ (h.x.blk HB0.out (PgBlk.notLt (by omega)))
  have ea2 : ∀ w', Exk (PgBlk w3.heap.size) w3 w' → w'.cell? ⟨w.heap.size, 2, none⟩ = some (.slice iA p.items.length ic) := fun w' h => cell_of_row _ _ _ _ _ _ (h.x.blk HB0.out (PgBlk.notLt (by omega)))
  have ea3 : ∀ w', Exk (PgBlk w3.heap.size) w3 w' → w'.cell? ⟨w.heap.size, 3, none⟩ = some (.slice dA p.data.length dc) := fun w' h => cell_of_row _ _ _ _ _ _ (h.x.blk HB0.out (PgBlk.notLt (by omega)))
  have ea4 : ∀ w', Exk (PgBlk w3.heap.size) w3 w' → w'.cell? ⟨w.heap.size, 4, none⟩ = some (.int .i64 p.next) := fun w' h => cell_of_row _ _ _ _ _ _ (h.x.blk HB0.out (PgBlk.notLt (by omega)))
  have eb0 : ∀ w', Exk (PgBlk w3.heap.size) w3 w' → w'.cell? ⟨w.heap.size + 1, 0, none⟩ = some (.int .i64 q.kind) := fun w' h => cell_of_row _ _ _ _ _ _ (h.x.blk HB1.out (PgBlk.notLt (by omega)))
  have eb1 : ∀ w', Exk (PgBlk w3.heap.size) w3 w' → w'.cell? ⟨w.heap.size + 1, 1, none⟩ = some (.int .i64 q.level) := fun w' h => cell_of_row _ _ _ _ _ _ (h.x.blk HB1.out (PgBlk.notLt (by omega)))
  have eb2 : ∀ w', Exk (PgBlk w3.heap.size) w3 w' → w'.cell? ⟨w.heap.size + 1, 2, none⟩ = some (.slice jA q.items.length jc) := fun w' h => cell_of_row _ _ _ _ _ _ (h.x.blk HB1.out (PgBlk.notLt (by omega)))
  have eb3 : ∀ w', Exk (PgBlk w3.heap.size) w3 w' → w'.cell? ⟨w.heap.size + 1, 3, none⟩ = some (.slice cA q.data.length cc) := fun w' h => cell_of_row _ _ _ _ _ _ (h.x.blk HB1.out (PgBlk.notLt (by omega)))
  have eb4 : ∀ w', Exk (PgBlk w3.heap.size) w3 w' → w'.cell? ⟨w.heap.size + 1, 4, none⟩ = some (.int .i64 q.next) := fun w' h => cell_of_row _ _ _ _ _ _ (h.x.blk HB1.out (PgBlk.notLt (by omega)))
  repeat (first | (apply wpR_one; (case ho => (simp only [List.getElem?_toArray, List.getElem?_cons_succ, List.getElem?_cons_zero]; try exact rfl)); (case hw => rfl); (case hl => rfl); (case hsp => rfl); (case he => rfl); (case hv => (intro w' hw'; (try (have hw2 := Ext.trans hEW hw')); (try (have hw3 := Exc.trans hEW hw')); (try (have hw4 := Exk.trans hEW hw')); (try (have hw5 := Mrk.trans hEW hw')); go_simp; exact rfl)); (case hw0 => (first | exact Below.refl _ _ | exact Exc.of_ext (Below.refl _ _) | exact Exk.of_ext (Below.refl _ _) | exact Mrk.of_ext (Below.refl _ _))); simp only [Act.put, List.setIfInBounds_toArray, List.set_cons_succ, List.set_cons_zero]) | (apply wpR_early; (case ho => (simp only [List.getElem?_toArray, List.getElem?_cons_succ, List.getElem?_cons_zero]; try exact rfl)); (case hw => rfl); (case hl => rfl); (case hsp => rfl); (case he => rfl); (case hv => (intro w' hw'; (try have hw2 := Ext.trans hEW hw'); go_simp; exact rfl)); simp only [Act.put, List.setIfInBounds_toArray, List.set_cons_succ, List.set_cons_zero]) | (apply wpR_pass; (case ho => (simp only [List.getElem?_toArray, List.getElem?_cons_succ, List.getElem?_cons_zero]; try exact rfl)); (case hw => rfl); (case hl => rfl); simp only [Act.put, List.setIfInBounds_toArray, List.set_cons_succ, List.set_cons_zero]))
  refine wpR_new (by ((simp only [List.getElem?_toArray, List.getElem?_cons_succ, List.getElem?_cons_zero]; try exact rfl))) _ rfl rfl rfl (fun V v => Built.lastsK _ _) (fun V V' h => by simp only [h 1 (by kernel_rfl)]) (fun w' hw' hK => ?_) (fun v hv => ?_)
  · have hXs := (hEW.trans hw').x.size
    unfold opAt
    go_simp
    exact upAt_value ⟨ext_alloc _ _, _, rfl, hXs, heap_alloc_new _ _⟩
  obtain ⟨h, rfl⟩ : ∃ h, v = .slice (some ⟨h, 0, none⟩) 1 1 := by
    obtain ⟨_, _, _, h, e, _⟩ := hv
    exact ⟨h, e⟩
  clear hv
  simp only [Act.put, List.setIfInBounds_toArray, List.set_cons_succ, List.set_cons_zero]
  refine wpR_new (by ((simp only [List.getElem?_toArray, List.getElem?_cons_succ, List.getElem?_cons_zero]; try exact rfl))) _ rfl rfl rfl (fun V v => PgO.lastsK _ _) (fun V V' h => rfl) (fun w' hw' hK => ?_) (fun v hv => ?_)
  · have HK2 := Lib.hid (hK 2 (by kernel_rfl)).2
    have HX := Lib.hid (hX w' hw')
    clear hK
    unfold opAt; go_simp; refine upAt_enter ?_
    obtain ⟨h', e4, _, hbk⟩ := HK2.out
    obtain rfl := sl_inj (show Value.slice (some ⟨h, 0, none⟩) 1 1 = _ from e4)
    have hpc : Pcs w' (some ⟨h, 0, none⟩) [row.take n] := by
      intro _
      refine ⟨_, _, rfl, fun j x hx => ?_⟩
      rw [cell_of_row _ _ _ _ _ _ hbk]
      rcases j with _ | j
      · simp only [List.getElem?_cons_zero, Option.some.injEq] at hx
        subst hx
        exact ⟨_, _, _, rfl, HT.out.symm, (hr.ext HX.out).take n n (by rw [HT.out]; exact Nat.le_refl _) (by omega)⟩
      · simp at hx
    refine (with_any (hv.ext HX.out) hpc rfl (Nat.le_refl _) (by simp) (by simp [joined]; omega)).mono ?_
    rintro e w2 ⟨v', rfl, hO, hE2⟩
    exact ⟨_, rfl, hE2, by simpa [joined] using hO.mono (hEW.trans hw').x.size⟩
  obtain ⟨iA1, dA1, ic1, dc1, n1, HN1, rfl⟩ : ∃ iA' dA' ic' dc' n', Hid (n' = (row.take n).length) ∧ v = .agg #[.int .i64 p.kind, .int .i64 p.level, .slice iA' n' ic', .slice dA' p.data.length dc', .int .i64 p.next] := by
    obtain ⟨_, _, _, hO⟩ := hv
    obtain ⟨iA', ic', dA', dc', ps, e, _⟩ := hO.ex
    exact ⟨_, _, _, _, _, Lib.hid rfl, e⟩
  clear hv
  simp only [Act.put, List.setIfInBounds_toArray, List.set_cons_succ, List.set_cons_zero]
  repeat (first | (apply wpR_one; (case ho => (simp only [List.getElem?_toArray, List.getElem?_cons_succ, List.getElem?_cons_zero]; try exact rfl)); (case hw => rfl); (case hl => rfl); (case hsp => rfl); (case he => rfl); (case hv => (intro w' hw'; (try (have hw2 := Ext.trans hEW hw')); (try (have hw3 := Exc.trans hEW hw')); (try (have hw4 := Exk.trans hEW hw')); (try (have hw5 := Mrk.trans hEW hw')); go_simp; exact rfl)); (case hw0 => (first | exact Below.refl _ _ | exact Exc.of_ext (Below.refl _ _) | exact Exk.of_ext (Below.refl _ _) | exact Mrk.of_ext (Below.refl _ _))); simp only [Act.put, List.setIfInBounds_toArray, List.set_cons_succ, List.set_cons_zero]) | (apply wpR_early; (case ho => (simp only [List.getElem?_toArray, List.getElem?_cons_succ, List.getElem?_cons_zero]; try exact rfl)); (case hw => rfl); (case hl => rfl); (case hsp => rfl); (case he => rfl); (case hv => (intro w' hw'; (try have hw2 := Ext.trans hEW hw'); go_simp; exact rfl)); simp only [Act.put, List.setIfInBounds_toArray, List.set_cons_succ, List.set_cons_zero]) | (apply wpR_pass; (case ho => (simp only [List.getElem?_toArray, List.getElem?_cons_succ, List.getElem?_cons_zero]; try exact rfl)); (case hw => rfl); (case hl => rfl); simp only [Act.put, List.setIfInBounds_toArray, List.set_cons_succ, List.set_cons_zero]))
  refine wpR_new (by ((simp only [List.getElem?_toArray, List.getElem?_cons_succ, List.getElem?_cons_zero]; try exact rfl))) _ rfl rfl rfl (fun V v => Built.lastsK _ _) (fun V V' h => by simp only [h 5 (by kernel_rfl)]) (fun w' hw' hK => ?_) (fun v hv => ?_)
  · have hXs := (hEW.trans hw').x.size
    unfold opAt
    go_simp
    exact upAt_value ⟨ext_alloc _ _, _, rfl, hXs, heap_alloc_new _ _⟩
  obtain ⟨h3, rfl⟩ : ∃ h, v = .slice (some ⟨h, 0, none⟩) 1 1 := by
    obtain ⟨_, _, _, h, e, _⟩ := hv
    exact ⟨h, e⟩
  clear hv
  simp only [Act.put, List.setIfInBounds_toArray, List.set_cons_succ, List.set_cons_zero]
  refine wpR_new (by ((simp only [List.getElem?_toArray, List.getElem?_cons_succ, List.getElem?_cons_zero]; try exact rfl))) _ rfl rfl rfl (fun V v => Lot.lastsK _ _) (fun V V' h => by simp only [h 3 (by kernel_rfl)]) (fun w' hw' hK => ?_) (fun v hv => ?_)
  · have HK6 := Lib.hid (hK 6 (by kernel_rfl)).2
    have HK3 := Lib.hid (hK 3 (by kernel_rfl)).2
    have HX := Lib.hid (hX w' hw')
    clear hK
    unfold opAt; go_simp; refine upAt_enter ?_
    obtain ⟨h', e4, _, hbk⟩ := HK6.out
    obtain rfl := sl_inj (show Value.slice (some ⟨h3, 0, none⟩) 1 1 = _ from e4)
    have hpc : Pcs w' (some ⟨h3, 0, none⟩) [row.drop n] := by
      intro _
      refine ⟨_, _, rfl, fun j x hx => ?_⟩
      rw [cell_of_row _ _ _ _ _ _ hbk]
      rcases j with _ | j
      · simp only [List.getElem?_cons_zero, Option.some.injEq] at hx
        subst hx
        exact ⟨_, _, _, rfl, HD.out.symm, hT.ext HX.out⟩
      · simp at hx
    refine (with_any (hu.ext HX.out) hpc rfl (Nat.le_refl _) (by simp) (by simp [joined]; omega)).mono ?_
    rintro e w2 ⟨v', rfl, hO, hE2⟩
    have hO' : PgO w'.heap.size w2 v' { q with items := row.drop n } := by simpa [joined] using hO
    exact ⟨_, rfl, hE2, Two.mk HK3.out hE2 hO' (hEW.trans hw').x.size⟩
  obtain ⟨iA2, dA2, ic2, dc2, n2, HN2, rfl⟩ : ∃ iA' dA' ic' dc' n', Hid (n' = (row.drop n).length) ∧ v = .agg #[.int .i64 q.kind, .int .i64 q.level, .slice iA' n' ic', .slice dA' q.data.length dc', .int .i64 q.next] := by
    obtain ⟨_, _, _, hO⟩ := hv
    obtain ⟨iA', ic', dA', dc', ps, e, _⟩ := (hO.pgo (List.mem_cons_of_mem _ (List.mem_singleton.2 rfl))).ex
    exact ⟨_, _, _, _, _, Lib.hid rfl, e⟩
  clear hv
  simp only [Act.put, List.setIfInBounds_toArray, List.set_cons_succ, List.set_cons_zero]
  refine wpR_alloc (by ((simp only [List.getElem?_toArray, List.getElem?_cons_succ, List.getElem?_cons_zero]; try exact rfl))) _ rfl rfl rfl (fun V v => PgCell.lasts _ _) (fun V V' h => rfl) (fun w' hw' hK => ?_) (fun v hv => ?_)
  · have hXs := (hEW.trans hw').x.size
    unfold opAt
    go_simp
    exact upAt_value ⟨ext_alloc _ _, ⟨_, rfl, hXs, _, heap_alloc_new _ _, rfl⟩, fun _ g hg => by injection hg with hg; exact ⟨hg.symm, by simp⟩⟩
  obtain ⟨g1, rfl⟩ : ∃ g, v = .pointer (some ⟨g, 0, none⟩) := by
    obtain ⟨_, _, _, g, e, _⟩ := hv
    exact ⟨g, e⟩
  clear hv
  simp only [Act.put, List.setIfInBounds_toArray, List.set_cons_succ, List.set_cons_zero]
  refine wpR_alloc (by ((simp only [List.getElem?_toArray, List.getElem?_cons_succ, List.getElem?_cons_zero]; try exact rfl))) _ rfl rfl rfl (fun V v => PgCell.lasts _ _) (fun V V' h => rfl) (fun w' hw' hK => ?_) (fun v hv => ?_)
  · have hXs := (hEW.trans hw').x.size
    unfold opAt
    go_simp
    exact upAt_value ⟨ext_alloc _ _, ⟨_, rfl, hXs, _, heap_alloc_new _ _, rfl⟩, fun _ g hg => by injection hg with hg; exact ⟨hg.symm, by simp⟩⟩
  obtain ⟨g2, rfl⟩ : ∃ g, v = .pointer (some ⟨g, 0, none⟩) := by
    obtain ⟨_, _, _, g, e, _⟩ := hv
    exact ⟨g, e⟩
  clear hv
  simp only [Act.put, List.setIfInBounds_toArray, List.set_cons_succ, List.set_cons_zero]
  refine wpR_late (by ((simp only [List.getElem?_toArray, List.getElem?_cons_succ, List.getElem?_cons_zero]; try exact rfl))) _ rfl rfl (fun V v w' w2 h he => h.ext he) (fun V V' h => by simp only [h 3 (by kernel_rfl), h 8 (by kernel_rfl)]) (fun w' hw' hK hF => ?_) (fun v hv => ?_)
  · obtain ⟨g, e8, hg8, cs, hb8, hs8⟩ := (hK 8 (by kernel_rfl)).2
    obtain rfl := ptr_inj (show Value.pointer (some ⟨g1, 0, none⟩) = _ from e8)
    refine opAt_list rfl #[] (fun Q hQ => ?_)
    refine wpList_store_box rfl 26 _ _ rfl g1 _ rfl rfl 26 _ hb8 (by kernel_rfl) hs8 (by simp [Value.oneCell']) (fun w2 hb hg => ?_)
    exact hQ _ _ ⟨Exk.of_only hg hb8 hb (by rw [hs8]; rfl) ⟨hg8, _, _, rfl⟩, ⟨g1, _, rfl, hg8, rfl, hb⟩⟩
  clear hv
  simp only [Act.put, List.setIfInBounds_toArray, List.set_cons_succ, List.set_cons_zero]
  refine wpR_lateP (by ((simp only [List.getElem?_toArray, List.getElem?_cons_succ, List.getElem?_cons_zero]; try exact rfl))) _ rfl rfl (fun V v w' w2 h he => ⟨h.1.ext he, h.2.1.ext he, h.2.2⟩) (fun V V' h => by simp only [h 3 (by kernel_rfl), h 8 (by kernel_rfl), h 7 (by kernel_rfl), h 9 (by kernel_rfl)]) (fun w' hw' hK hF hP => ?_) (fun v hv => ?_)
  · obtain ⟨g, e9, hg9, cs, hb9, hs9⟩ := (hK 9 (by kernel_rfl)).2
    obtain rfl := ptr_inj (show Value.pointer (some ⟨g2, 0, none⟩) = _ from e9)
    have hne : g1 ≠ g2 := fun e => hP 8 9 (by kernel_rfl) (by kernel_rfl) (by decide) (by kernel_rfl) (by kernel_rfl) g1 rfl (by rw [e]; rfl)
    obtain ⟨g', cs', e10, hg10, e11, hb10⟩ := hF
    obtain rfl := ptr_inj (show Value.pointer (some ⟨g1, 0, none⟩) = _ from e10)
    refine opAt_list rfl #[] (fun Q hQ => ?_)
    refine wpList_store_box rfl 26 _ _ rfl g2 _ rfl rfl 26 _ hb9 (by kernel_rfl) hs9 (by simp [Value.oneCell']) (fun w2 hb hg => ?_)
    exact hQ _ _ ⟨Exk.of_only hg hb9 hb (by rw [hs9]; rfl) ⟨hg9, _, _, rfl⟩, ⟨g1, _, rfl, hg10, e11, blk_other hb10 hg hne⟩, ⟨g2, _, rfl, hg9, rfl, hb⟩, fun e => hne (ptr_inj (show Value.pointer (some ⟨g1, 0, none⟩) = Value.pointer (some ⟨g2, 0, none⟩) from e))⟩
  clear hv
  apply wpR_nil
  apply hN
  intro w4 hE' hK hF
  have hS : PartT w w4 p q row n (.agg #[.int .i64 p.kind, .int .i64 p.level, .slice iA1 n1 ic1, .slice dA1 p.data.length dc1, .int .i64 p.next]) (.agg #[.int .i64 q.kind, .int .i64 q.level, .slice iA2 n2 ic2, .slice dA2 q.data.length dc2, .int .i64 q.next]) g1 g2 := by
    have hx := (hEW.trans hE').x
    have o2 : Two w3.heap.size w4 _ { p with items := row.take n } _ { q with items := row.drop n } := (hK 7).2
    obtain ⟨s1, s2, hne⟩ := hF
    refine ⟨hX w4 hE', ⟨_, _, _, _, hx.blk HB0.out (PgBlk.notLt (by omega))⟩, hx.blk HB2.out (PgBlk.notLt (by omega)), hx.blk HB3.out (PgBlk.notLt (by omega)), o2.mono (by omega), ?_, ?_, fun e => hne (by rw [e]; rfl)⟩
    · obtain ⟨g, cs, x1, x2, x3, x4⟩ := s1
      exact ⟨g, cs, x1, by omega, x3, x4⟩
    · obtain ⟨g, cs, x1, x2, x3, x4⟩ := s2
      exact ⟨g, cs, x1, by omega, x3, x4⟩
  clear hK hN hF ea0 ea1 ea2 ea3 ea4 eb0 eb1 eb2 eb3 eb4 hX hEW hE' hW hF0 HB0 HB1 HB2 HB3
  obtain ⟨hE, ⟨iA9, ic9, dA9, dc9, b0⟩, b2, b3, tt, s1, s2, hne⟩ := hS
  have o1 := tt.pgo (List.mem_cons_self ..)
  have o2 := tt.pgo (List.mem_cons_of_mem _ (List.mem_singleton.2 rfl))
  have TT := Lib.hid tt
  clear tt
  obtain ⟨_, _, e, hg1, e', d1⟩ := s1
  obtain rfl := ptr_inj e
  injection e' with e'
  subst e'
  obtain ⟨_, _, e, hg2, e', d2⟩ := s2
  obtain rfl := ptr_inj e
  injection e' with e'
  subst e'
  have p0 := cell_of_row w4 w.heap.size 0 _ _ _ b0
  have x0 := cell_of_row w4 g1 0 _ _ _ d1
  have x1 := cell_of_row w4 g1 1 _ _ _ d1
  have x2 := cell_of_row w4 g1 2 _ _ _ d1
  have x3 := cell_of_row w4 g1 3 _ _ _ d1
  have x4 := cell_of_row w4 g1 4 _ _ _ d1
  have y0 := cell_of_row w4 g2 0 _ _ _ d2
  have y1 := cell_of_row w4 g2 1 _ _ _ d2
  have y2 := cell_of_row w4 g2 2 _ _ _ d2
  have y3 := cell_of_row w4 g2 3 _ _ _ d2
  have y4 := cell_of_row w4 g2 4 _ _ _ d2
  simp only [List.getElem?_toArray, List.getElem?_cons_zero, List.getElem?_cons_succ] at p0 x0 x1 x2 x3 x4 y0 y1 y2 y3 y4
  have ho2 : ∃ ps1 ps, OwnIts (w.heap.size + 4) w4 iA2 ic2 (row.drop n) ps ∧ Own 5 (w.heap.size + 4) w4 dA2 dc2 q.data ∧ OwnIts (w.heap.size + 4) w4 iA1 ic1 (row.take n) ps1 ∧ Own 5 (w.heap.size + 4) w4 dA1 dc1 p.data ∧
      ((.slice dA1 p.data.length dc1 :: flat ps1) ++ (.slice dA2 q.data.length dc2 :: flat ps)).Pairwise NoShare ∧ NoShare (.slice iA1 n1 ic1) (.slice iA2 n2 ic2) := by
    obtain ⟨⟨q1, jA1, jc1, lA1, lc1, qs1⟩, ⟨q2, jA2, jc2, lA2, lc2, qs2⟩, e1, e2, e3, e4, k1, k2, k3, k4⟩ := Two.open_ TT.out
    dsimp only at e2 e4
    subst e2 e4
    obtain ⟨rfl, rfl, rfl, rfl⟩ := pgv_inj e1
    obtain ⟨rfl, rfl, rfl, rfl⟩ := pgv_inj e3
    refine ⟨qs1, qs2, k2.its, k2.dat, k1.its, k1.dat, k3, ?_⟩
    rw [HN1.out, HN2.out]
    exact k4
  obtain ⟨ps1, ps, k1, k2, k4, k5, k3, k6⟩ := ho2
  have K4 := Lib.hid k4
  have K5 := Lib.hid k5
  have K6 := Lib.hid k6
  clear k4 k5 k6
  have K1 := Lib.hid k1
  have K2 := Lib.hid k2
  have K3 := Lib.hid k3
  have B0 := Lib.hid b0
  clear b0 k1 k2 k3
  obtain ⟨x, hx⟩ : ∃ x, row[n]? = some x := ⟨_, List.getElem?_eq_getElem h2⟩
  have hx0 : (row.drop n)[0]? = some x := by rw [List.getElem?_drop]; simpa using hx
  by_cases hk2 : p.kind = 2
  · have c1 : (p.kind == 2) = true := by simpa using hk2
    have HQ := Lib.hid (show partB p q row n = some ({ p with items := row.take n }, { q with items := (row.drop n).modify 0 (·.keyed []) }, x.key) by
      unfold partB
      rw [if_pos hk2, List.getD_eq_getElem?_getD, hx]
      rfl)
    obtain ⟨gr, cp, hgA, hgB, _⟩ := World.ownsRow.form K1.out.row (by rw [HD.out]; omega)
    injection hgA with hA1 hA2 hA3
    subst hA1 hA3
    clear hA2
    obtain ⟨pr, hpr, ⟨kA, kc, hkv, hko⟩, _⟩ := K1.out.each.at_ hx0
    have z0 := World.ownsRow.cellAt K1.out.row 0 (by rw [HD.out]; omega)
    have z0' := rowCells_at ps _ 0 0 pr x hpr hx0 (by omega)
    simp only [Nat.zero_mul, Nat.zero_add] at z0'
    rw [z0'] at z0
    simp only [itCells, hkv, List.getElem?_cons_zero] at z0
    have f0 := World.ownsRow.frozenAt K1.out.row 0
    have hty : ∀ g cs, w4.heap[g]? = some (.cells cs 26 (0, 0)) → g ≠ gr := fun g cs h e => by
      subst e
      rcases K1.out.row.2 with ⟨h0, _⟩ | ⟨g', cap, cur, e', _, hg', _⟩
      · cases h0
      · obtain rfl := sl_inj e'
        rw [h] at hg'
        injection hg' with hg'
        injection hg' with _ e
        exact absurd e (by decide)
    have hm0 : (row.drop n).modify 0 (·.keyed []) = (row.drop n).set 0 (x.keyed []) := modify_at _ hx0
    have hmem : pr.1 ∈ flat ps := by
      obtain ⟨pr', rfl⟩ : ∃ l, ps = pr :: l := by
        cases ps with
        | nil => simp at hpr
        | cons a l => simp only [List.getElem?_cons_zero, Option.some.injEq] at hpr; subst hpr; exact ⟨l, rfl⟩
      simp [flat]
    have hset := K1.out.setKey (k := []) (v := .slice none 0 0) hpr hx0 (SOwn.nil _ _ _) (fun a _ => noShare_nil a)
    rw [Nat.zero_mul] at hset
    have hex := setCell_exc w4 gr 0 (.slice none 0 0)
    have hEn : Ext w (w4.setCell ⟨gr, 0, none⟩ (.slice none 0 0)) := hex.to_ext hE (fun k _ hk => by omega)
    have m1 := hty _ _ d1
    have m2 := hty _ _ d2
    have m3 := hty _ _ b2
    have m4 := hty _ _ b3
    have hgi : ∃ cs, w4.heap[gr]? = some (.cells cs 51 (0, 0)) := by
      rcases K1.out.row.2 with ⟨h0, _⟩ | ⟨g', cap, cur, e', _, hg', _⟩
      · cases h0
      · obtain rfl := sl_inj e'
        exact ⟨_, hg'⟩
    have hnu : ∀ cs, w4.heap[gr]? ≠ some (.cells cs 5 (0, 0)) := fun cs h => by
      rcases K1.out.row.2 with ⟨h0, _⟩ | ⟨g', cap, cur, e', _, hg', _⟩
      · cases h0
      · obtain rfl := sl_inj e'
        rw [h] at hg'
        injection hg' with hg'
        injection hg' with _ e
        exact absurd e (by decide)
    have hO2 : OwnIts (w.heap.size + 4) (w4.setCell ⟨gr, 0, none⟩ (.slice none 0 0)) (some ⟨gr, 0, none⟩) ic2 ((row.drop n).modify 0 (·.keyed [])) (ps.set 0 (.slice none 0 0, pr.2)) := by
      rw [hm0]
      exact hset
    have hOS : Own 5 (w.heap.size + 4) (w4.setCell ⟨gr, 0, none⟩ (.slice none 0 0)) kA kc x.key := hko.setT hgi 0 _
    have hO1 : OwnIts (w.heap.size + 4) (w4.setCell ⟨gr, 0, none⟩ (.slice none 0 0)) iA1 ic1 (row.take n) ps1 := by
      obtain ⟨cs, hc⟩ := hgi
      have hx := setCell_excT hc 0 (.slice none 0 0)
      have hgb : w4.grownBy (w4.setCell ⟨gr, 0, none⟩ (.slice none 0 0)) (some gr) := ⟨rfl, rfl, rfl, by simp [World.setCell], fun k hk hn => Below.heap_setCell w4 _ _ k (fun e => hn (by rw [e]))⟩
      refine ⟨World.ownsRow.kept K4.out.row hgb ?_, K4.out.each.exc hx (fun k c _ ⟨_, _, _, e⟩ => by injection e with _ e; exact absurd e (by decide)), K4.out.apart⟩
      cases hv : (Value.slice iA1 (row.take n).length ic1).ownBlock with
      | none => exact .inl rfl
      | some k => exact .inr fun e => K6.out k (by rw [HN1.out]; exact hv) (by rw [e]; rfl)
    have hTR : Tri (w.heap.size + 4) (w4.setCell ⟨gr, 0, none⟩ (.slice none 0 0)) (.agg #[.int .i64 p.kind, .int .i64 p.level, .slice iA1 n1 ic1, .slice dA1 p.data.length dc1, .int .i64 p.next]) { p with items := row.take n } (.agg #[.int .i64 q.kind, .int .i64 q.level, .slice (some ⟨gr, 0, none⟩) n2 ic2, .slice dA2 q.data.length dc2, .int .i64 q.next]) { q with items := (row.drop n).modify 0 (·.keyed []) } (.slice kA x.key.length kc) x.key := by
      have hl2 : n2 = ((row.drop n).modify 0 (·.keyed [])).length := by rw [HN2.out]; simp
      rw [HN1.out, hl2]
      refine Tri.mk3 (d1 := ⟨{ p with items := row.take n }, iA1, ic1, dA1, dc1, ps1⟩) (d2 := ⟨{ q with items := (row.drop n).modify 0 (·.keyed []) }, some ⟨gr, 0, none⟩, ic2, dA2, dc2, ps.set 0 (.slice none 0 0, pr.2)⟩) ⟨hO1, K5.out.setT hgi 0 _⟩ ⟨hO2, K2.out.setT hgi 0 _⟩ ⟨kA, kc, rfl, hOS⟩ ?_ ?_
      · obtain ⟨l, rfl⟩ : ∃ l, ps = pr :: l := by
          cases ps with
          | nil => simp at hpr
          | cons a l => simp only [List.getElem?_cons_zero, Option.some.injEq] at hpr; subst hpr; exact ⟨l, rfl⟩
        have h0 := List.pairwise_append.2 ⟨K3.out, List.pairwise_singleton NoShare (.slice none 0 0), fun a _ b hb => by
          rw [List.mem_singleton.1 hb]; exact (noShare_nil a).1⟩
        refine (List.Perm.pairwise_iff (fun h => h.symm) ?_).1 h0
        have f1 : flat (pr :: l) = .slice kA x.key.length kc :: pr.2 :: flat l := by simp [flat, hkv]
        have f2 : flat ((pr :: l).set 0 (.slice none 0 0, pr.2)) = .slice none 0 0 :: pr.2 :: flat l := by simp [flat]
        simp only [PgD.bytes, PgD.dat]
        rw [f1, f2]
        simp only [List.append_assoc, List.cons_append]
        refine List.Perm.cons _ (List.Perm.append_left _ (List.Perm.cons _ ?_))
        refine (List.perm_append_comm (l₁ := .slice kA x.key.length kc :: pr.2 :: flat l) (l₂ := [.slice none 0 0])).trans ?_
        refine List.Perm.cons _ ?_
        exact List.perm_append_comm (l₁ := [.slice kA x.key.length kc]) (l₂ := pr.2 :: flat l)
      · intro g hg hg'
        refine K6.out g (by rw [HN1.out]; exact hg) ?_
        rw [HN2.out]
        exact hg'
    have b2' := hex.blk b2 m3
    have b3' := hex.blk b3 m4
    have d1' := hex.blk d1 m1
    have d2' := hex.blk d2 m2
    clear hk2 hm0 hset hty hmem hnu z0' hpr hkv hko hx0 hx x0 x1 x3 x4 y0 y1 y3 y4 m1 m2 m3 m4 hex b2 b3 d1 d2 hE o1 o2
    have hn2 : 0 < n2 := by rw [HN2.out, HD.out]; omega
    have hn2i : (0 : Int) < (n2 : Int) := by omega
    go_wp2
    refine wp_cut (fun W => Ext w W ∧ W.heap[w.heap.size + 1 + 1]? = some (.cells #[.int .i64 0, .int .i64 0, .slice none 0 0, .slice none 0 0, .int .i64 0] 26) ∧ W.heap[w.heap.size + 1 + 1 + 1]? = some (.cells #[.int .i64 0, .int .i64 0, .slice none 0 0, .slice none 0 0, .int .i64 0] 26) ∧ W.heap[g1]? = some (.cells #[.int .i64 p.kind, .int .i64 p.level, .slice iA1 n1 ic1, .slice dA1 p.data.length dc1, .int .i64 p.next] 26) ∧ W.heap[g2]? = some (.cells #[.int .i64 q.kind, .int .i64 q.level, .slice (some ⟨gr, 0, none⟩) n2 ic2, .slice dA2 q.data.length dc2, .int .i64 q.next] 26) ∧
      Tri (w.heap.size + 4) W (.agg #[.int .i64 p.kind, .int .i64 p.level, .slice iA1 n1 ic1, .slice dA1 p.data.length dc1, .int .i64 p.next]) { p with items := row.take n } (.agg #[.int .i64 q.kind, .int .i64 q.level, .slice (some ⟨gr, 0, none⟩) n2 ic2, .slice dA2 q.data.length dc2, .int .i64 q.next]) { q with items := (row.drop n).modify 0 (·.keyed []) } (.slice kA x.key.length kc) x.key) ⟨hEn, b2', b3', d1', d2', hTR⟩ ?_
    clear hEn b2' b3' d1' d2' hO1 hO2 hOS hTR f0 z0
    rintro w5 ⟨hEw, b2, b3, d1, d2, o1⟩
    have O1 := Lib.hid o1
    clear o1
    refine wp_region_rg (Exc (fun k _ => k = w.heap.size + 1 + 1 ∨ k = w.heap.size + 1 + 1 + 1)) (rel_exc _) (fun w' => w'.heap[w.heap.size + 1 + 1]? = some (.cells #[.int .i64 0, .int .i64 0, .slice none 0 0, .slice none 0 0, .int .i64 0] 26) ∧ w'.heap[w.heap.size + 1 + 1 + 1]? = some (.cells #[.int .i64 0, .int .i64 0, .slice none 0 0, .slice none 0 0, .int .i64 0] 26)) [0, 1, 2, 3, 4, 5, 6] (fun _ => none) (fun i => match i with
      | 3 => some fun _ _ w' => w'.heap[w.heap.size + 1 + 1]? = some (.cells #[.int .i64 p.kind, .int .i64 p.level, .slice iA1 n1 ic1, .slice dA1 p.data.length dc1, .int .i64 p.next] 26) ∧ w'.heap[w.heap.size + 1 + 1 + 1]? = some (.cells #[.int .i64 0, .int .i64 0, .slice none 0 0, .slice none 0 0, .int .i64 0] 26)
      | 4 => some fun _ _ w' => w'.heap[w.heap.size + 1 + 1]? = some (.cells #[.int .i64 p.kind, .int .i64 p.level, .slice iA1 n1 ic1, .slice dA1 p.data.length dc1, .int .i64 p.next] 26) ∧ w'.heap[w.heap.size + 1 + 1 + 1]? = some (.cells #[.int .i64 q.kind, .int .i64 q.level, .slice (some ⟨gr, 0, none⟩) n2 ic2, .slice dA2 q.data.length dc2, .int .i64 q.next] 26)
      | _ => none) (fun _ => false) (by kernel_rfl) (by kernel_rfl) (fun _ _ h he => ⟨he.blk h.1, he.blk h.2⟩) ⟨b2, b3⟩ (fun W N hW hF0 hN => ?_)
    have hEW : Exc (fun k _ => k = w.heap.size + 1 + 1 ∨ k = w.heap.size + 1 + 1 + 1) w5 W := Exc.of_ext hW
    have D1 := Lib.hid d1
    have D2 := Lib.hid d2
    clear b2 b3 d1 d2
    have x0 : ∀ w', Exc (fun k _ => k = w.heap.size + 1 + 1 ∨ k = w.heap.size + 1 + 1 + 1) w5 w' → w'.cell? ⟨g1, 0, none⟩ = some (.int .i64 p.kind) := fun w' h => cell_of_row _ _ _ _ _ _ (h.blk D1.out (by omega))
    have x1 : ∀ w', Exc (fun k _ => k = w.heap.size + 1 + 1 ∨ k = w.heap.size + 1 + 1 + 1) w5 w' → w'.cell? ⟨g1, 1, none⟩ = some (.int .i64 p.level) := fun w' h => cell_of_row _ _ _ _ _ _ (h.blk D1.out (by omega))
    have x2 : ∀ w', Exc (fun k _ => k = w.heap.size + 1 + 1 ∨ k = w.heap.size + 1 + 1 + 1) w5 w' → w'.cell? ⟨g1, 2, none⟩ = some (.slice iA1 n1 ic1) := fun w' h => cell_of_row _ _ _ _ _ _ (h.blk D1.out (by omega))
    have x3 : ∀ w', Exc (fun k _ => k = w.heap.size + 1 + 1 ∨ k = w.heap.size + 1 + 1 + 1) w5 w' → w'.cell? ⟨g1, 3, none⟩ = some (.slice dA1 p.data.length dc1) := fun w' h => cell_of_row _ _ _ _ _ _ (h.blk D1.out (by omega))
    have x4 : ∀ w', Exc (fun k _ => k = w.heap.size + 1 + 1 ∨ k = w.heap.size + 1 + 1 + 1) w5 w' → w'.cell? ⟨g1, 4, none⟩ = some (.int .i64 p.next) := fun w' h => cell_of_row _ _ _ _ _ _ (h.blk D1.out (by omega))
    have y0 : ∀ w', Exc (fun k _ => k = w.heap.size + 1 + 1 ∨ k = w.heap.size + 1 + 1 + 1) w5 w' → w'.cell? ⟨g2, 0, none⟩ = some (.int .i64 q.kind) := fun w' h => cell_of_row _ _ _ _ _ _ (h.blk D2.out (by omega))
    have y1 : ∀ w', Exc (fun k _ => k = w.heap.size + 1 + 1 ∨ k = w.heap.size + 1 + 1 + 1) w5 w' → w'.cell? ⟨g2, 1, none⟩ = some (.int .i64 q.level) := fun w' h => cell_of_row _ _ _ _ _ _ (h.blk D2.out (by omega))
    have y2 : ∀ w', Exc (fun k _ => k = w.heap.size + 1 + 1 ∨ k = w.heap.size + 1 + 1 + 1) w5 w' → w'.cell? ⟨g2, 2, none⟩ = some (.slice (some ⟨gr, 0, none⟩) n2 ic2) := fun w' h => cell_of_row _ _ _ _ _ _ (h.blk D2.out (by omega))
    have y3 : ∀ w', Exc (fun k _ => k = w.heap.size + 1 + 1 ∨ k = w.heap.size + 1 + 1 + 1) w5 w' → w'.cell? ⟨g2, 3, none⟩ = some (.slice dA2 q.data.length dc2) := fun w' h => cell_of_row _ _ _ _ _ _ (h.blk D2.out (by omega))
    have y4 : ∀ w', Exc (fun k _ => k = w.heap.size + 1 + 1 ∨ k = w.heap.size + 1 + 1 + 1) w5 w' → w'.cell? ⟨g2, 4, none⟩ = some (.int .i64 q.next) := fun w' h => cell_of_row _ _ _ _ _ _ (h.blk D2.out (by omega))
    repeat (first | (apply wpR_one; (case ho => (simp only [List.getElem?_toArray, List.getElem?_cons_succ, List.getElem?_cons_zero]; try exact rfl)); (case hw => rfl); (case hl => rfl); (case hsp => rfl); (case he => rfl); (case hv => (intro w' hw'; (try (have hw2 := Ext.trans hEW hw')); (try (have hw3 := Exc.trans hEW hw')); (try (have hw4 := Exk.trans hEW hw')); (try (have hw5 := Mrk.trans hEW hw')); go_simp; exact rfl)); (case hw0 => (first | exact Below.refl _ _ | exact Exc.of_ext (Below.refl _ _) | exact Exk.of_ext (Below.refl _ _) | exact Mrk.of_ext (Below.refl _ _))); simp only [Act.put, List.setIfInBounds_toArray, List.set_cons_succ, List.set_cons_zero]) | (apply wpR_early; (case ho => (simp only [List.getElem?_toArray, List.getElem?_cons_succ, List.getElem?_cons_zero]; try exact rfl)); (case hw => rfl); (case hl => rfl); (case hsp => rfl); (case he => rfl); (case hv => (intro w' hw'; (try have hw2 := Ext.trans hEW hw'); go_simp; exact rfl)); simp only [Act.put, List.setIfInBounds_toArray, List.set_cons_succ, List.set_cons_zero]) | (apply wpR_pass; (case ho => (simp only [List.getElem?_toArray, List.getElem?_cons_succ, List.getElem?_cons_zero]; try exact rfl)); (case hw => rfl); (case hl => rfl); simp only [Act.put, List.setIfInBounds_toArray, List.set_cons_succ, List.set_cons_zero]))
    refine wpR_late (by ((simp only [List.getElem?_toArray, List.getElem?_cons_succ, List.getElem?_cons_zero]; try exact rfl))) _ rfl rfl (fun V v w' w2 h he => ⟨he.blk h.1, he.blk h.2⟩) (fun V V' h => rfl) (fun w' hw' hK hF => ?_) (fun v hv => ?_)
    · refine opAt_list rfl #[] (fun Q hQ => ?_)
      refine wpList_store_box rfl 26 _ _ rfl (w.heap.size + 1 + 1) _ rfl rfl 26 _ hF.1 (by kernel_rfl) rfl (by simp [Value.oneCell']) (fun w2 hb hg => ?_)
      exact hQ _ _ ⟨Exc.of_only hg (fun _ _ => .inl rfl), hb, blk_other hF.2 hg (by omega)⟩
    clear hv
    simp only [Act.put, List.setIfInBounds_toArray, List.set_cons_succ, List.set_cons_zero]
    refine wpR_late (by ((simp only [List.getElem?_toArray, List.getElem?_cons_succ, List.getElem?_cons_zero]; try exact rfl))) _ rfl rfl (fun V v w' w2 h he => ⟨he.blk h.1, he.blk h.2⟩) (fun V V' h => rfl) (fun w' hw' hK hF => ?_) (fun v hv => ?_)
    · refine opAt_list rfl #[] (fun Q hQ => ?_)
      refine wpList_store_box rfl 26 _ _ rfl (w.heap.size + 1 + 1 + 1) _ rfl rfl 26 _ hF.2 (by kernel_rfl) rfl (by simp [Value.oneCell']) (fun w2 hb hg => ?_)
      exact hQ _ _ ⟨Exc.of_only hg (fun _ _ => .inr rfl), blk_other hF.1 hg (by omega), hb⟩
    clear hv
    simp only [Act.put, List.setIfInBounds_toArray, List.set_cons_succ, List.set_cons_zero]
    repeat (first | (apply wpR_one; (case ho => (simp only [List.getElem?_toArray, List.getElem?_cons_succ, List.getElem?_cons_zero]; try exact rfl)); (case hw => rfl); (case hl => rfl); (case hsp => rfl); (case he => rfl); (case hv => (intro w' hw'; (try (have hw2 := Ext.trans hEW hw')); (try (have hw3 := Exc.trans hEW hw')); (try (have hw4 := Exk.trans hEW hw')); (try (have hw5 := Mrk.trans hEW hw')); go_simp; exact rfl)); (case hw0 => (first | exact Below.refl _ _ | exact Exc.of_ext (Below.refl _ _) | exact Exk.of_ext (Below.refl _ _) | exact Mrk.of_ext (Below.refl _ _))); simp only [Act.put, List.setIfInBounds_toArray, List.set_cons_succ, List.set_cons_zero]) | (apply wpR_early; (case ho => (simp only [List.getElem?_toArray, List.getElem?_cons_succ, List.getElem?_cons_zero]; try exact rfl)); (case hw => rfl); (case hl => rfl); (case hsp => rfl); (case he => rfl); (case hv => (intro w' hw'; (try have hw2 := Ext.trans hEW hw'); go_simp; exact rfl)); simp only [Act.put, List.setIfInBounds_toArray, List.set_cons_succ, List.set_cons_zero]) | (apply wpR_pass; (case ho => (simp only [List.getElem?_toArray, List.getElem?_cons_succ, List.getElem?_cons_zero]; try exact rfl)); (case hw => rfl); (case hl => rfl); simp only [Act.put, List.setIfInBounds_toArray, List.set_cons_succ, List.set_cons_zero]))
    apply wpR_nil
    apply hN
    intro w9 hE9 hK hF
    obtain ⟨r1, r2⟩ := hF
    have hx9 := hEW.trans hE9
    have hE' : Ext w w9 := hx9.to_ext hEw (fun k _ hk => by omega)
    have R1 := Lib.hid (Lot.exc4 hx9 O1.out (fun k _ hk => by omega))
    clear hK hN x0 x1 x2 x3 x4 y0 y1 y2 y3 y4 hEW hE9 hx9 hW hF0
    go_wp2
    refine bodyPost_ret (results_rrtt rfl _ _ _ _ _ _ _ _ _ _ _ _ rfl r1 Try.underlying26 rfl (by kernel_rfl) rfl r2 Try.underlying26 rfl (by kernel_rfl)) rfl ⟨_, _, _, _, by rw [HQ.out]; rfl, by rw [HQ.out]; exact R1.out.mono (by omega), hE'⟩
  · have c1 : (p.kind == 2) = false := by simpa using hk2
    obtain ⟨y, hy⟩ : ∃ y, row[n - 1]? = some y := ⟨_, List.getElem?_eq_getElem (by omega)⟩
    have HQ0 := Lib.hid (show partB p q row n = (betwB y.key x.key).map fun s => ({ p with items := row.take n }, { q with items := row.drop n }, s) by
      unfold partB
      rw [if_neg hk2, List.getD_eq_getElem?_getD, List.getD_eq_getElem?_getD, hx, hy]
      rfl)
    obtain ⟨b, o, rfl, hcx⟩ := hr.rd (by omega)
    obtain ⟨lA, lc, _, _, z0, _, _, _, zk, _⟩ := hcx (n - 1) y hy
    obtain ⟨b', o', hA', hcx'⟩ := hT.rd (by rw [HD.out]; omega)
    subst hA'
    obtain ⟨mA, mc, _, _, z1, _, _, _, xk, _⟩ := hcx' 0 x hx0
    rw [Nat.zero_mul, Nat.add_zero] at z1
    have ez0 : ∀ w', Ext w4 w' → w'.cell? ⟨b, o + (n - 1) * 4, none⟩ = some (.slice lA y.key.length lc) := fun w' h => (hE.trans h).cell z0
    have ez1 : ∀ w', Ext w4 w' → w'.cell? ⟨b', o', none⟩ = some (.slice mA x.key.length mc) := fun w' h => (hE.trans h).cell z1
    have i1 : (1 : Int) ≤ (n : Int) := by omega
    have i2 : (n : Int) - 1 < (n : Int) := by omega
    have i3 : (0 : Int) < ((row.length - n : Nat) : Int) := by omega
    have i4 : 0 < row.length - n := by omega
    have i5 : n < row.length := h2
    have h44 : w.heap.size + 4 ≤ w4.heap.size := (Array.getElem?_eq_some_iff.1 b3).1
    have D1 := Lib.hid d1
    have D2 := Lib.hid d2
    have B2 := Lib.hid b2
    have B3 := Lib.hid b3
    have O1 := Lib.hid o1
    have O2 := Lib.hid o2
    clear hk2 hx hx0 hy hcx hcx' z0 z1 x0 x1 x2 x3 x4 y0 y1 y2 y3 y4 d1 d2 b2 b3 o1 o2
    go_wp2
    refine wp_region_rg Ext rel_ext (fun _ => True) [0, 1, 2, 3, 4, 5, 6, 7, 8, 9, 10, 11, 12, 13, 14, 15] (fun i => match i with
      | 10 => some fun _ => BtwIn w4.heap.size y.key x.key
      | _ => none) (fun _ => none) (fun _ => false) (by kernel_rfl) (by kernel_rfl) (fun _ _ _ _ => trivial) trivial (fun W N hW _ hN => ?_)
    have hEW : Ext w4 W := hW
    have iw : IntKind.i64.wrap ((n : Int) - 1) = (n : Int) - 1 := IntWalk.i64_in _ (by omega)
    have iw2 : ((n : Int) - 1).toNat = n - 1 := by omega
    repeat (first | (apply wpR_one; (case ho => (simp only [List.getElem?_toArray, List.getElem?_cons_succ, List.getElem?_cons_zero]; try exact rfl)); (case hw => rfl); (case hl => rfl); (case hsp => rfl); (case he => rfl); (case hv => (intro w' hw'; (try (have hw2 := Ext.trans hEW hw')); (try (have hw3 := Exc.trans hEW hw')); (try (have hw4 := Exk.trans hEW hw')); (try (have hw5 := Mrk.trans hEW hw')); go_simp; exact rfl)); (case hw0 => (first | exact Below.refl _ _ | exact Exc.of_ext (Below.refl _ _) | exact Exk.of_ext (Below.refl _ _) | exact Mrk.of_ext (Below.refl _ _))); simp only [Act.put, List.setIfInBounds_toArray, List.set_cons_succ, List.set_cons_zero]) | (apply wpR_early; (case ho => (simp only [List.getElem?_toArray, List.getElem?_cons_succ, List.getElem?_cons_zero]; try exact rfl)); (case hw => rfl); (case hl => rfl); (case hsp => rfl); (case he => rfl); (case hv => (intro w' hw'; (try have hw2 := Ext.trans hEW hw'); go_simp; exact rfl)); simp only [Act.put, List.setIfInBounds_toArray, List.set_cons_succ, List.set_cons_zero]) | (apply wpR_pass; (case ho => (simp only [List.getElem?_toArray, List.getElem?_cons_succ, List.getElem?_cons_zero]; try exact rfl)); (case hw => rfl); (case hl => rfl); simp only [Act.put, List.setIfInBounds_toArray, List.set_cons_succ, List.set_cons_zero]))
    refine wpR_new (by ((simp only [List.getElem?_toArray, List.getElem?_cons_succ, List.getElem?_cons_zero]; try exact rfl))) _ rfl rfl rfl (fun V v => BtwIn.lasts _ _ _ _) (fun V V' h => rfl) (fun w' hw' hK => ?_) (fun v hv => ?_)
    · have HX := Lib.hid (hE.trans (hEW.trans hw'))
      have HY := Lib.hid (hEW.trans hw').size
      clear hK
      unfold opAt; go_simp; refine upAt_enter ?_
      refine (between_any (zk.ext HX.out) (xk.ext HX.out) rfl rfl).mono ?_
      rintro e w2 ⟨A6, c6, rfl, ho, hE6⟩
      exact ⟨_, rfl, hE6, A6, c6, _, _, rfl, Lib.hid rfl, Lib.hid rfl, ho.mono HY.out⟩
    obtain ⟨A6, c6, n6, z6, HN6, HZ6, rfl⟩ : ∃ A c n z, Hid (n = (betwK y.key x.key).length) ∧ Hid (z = (betwB y.key x.key).isSome) ∧ v = .tuple #[.slice A n c, .bool z] := by
      obtain ⟨_, _, _, A, c, n, z, h, h1, h2, _⟩ := hv
      exact ⟨A, c, n, z, h1, h2, h⟩
    clear hv
    simp only [Act.put, List.setIfInBounds_toArray, List.set_cons_succ, List.set_cons_zero]
    repeat (first | (apply wpR_one; (case ho => (simp only [List.getElem?_toArray, List.getElem?_cons_succ, List.getElem?_cons_zero]; try exact rfl)); (case hw => rfl); (case hl => rfl); (case hsp => rfl); (case he => rfl); (case hv => (intro w' hw'; (try (have hw2 := Ext.trans hEW hw')); (try (have hw3 := Exc.trans hEW hw')); (try (have hw4 := Exk.trans hEW hw')); (try (have hw5 := Mrk.trans hEW hw')); go_simp; exact rfl)); (case hw0 => (first | exact Below.refl _ _ | exact Exc.of_ext (Below.refl _ _) | exact Exk.of_ext (Below.refl _ _) | exact Mrk.of_ext (Below.refl _ _))); simp only [Act.put, List.setIfInBounds_toArray, List.set_cons_succ, List.set_cons_zero]) | (apply wpR_early; (case ho => (simp only [List.getElem?_toArray, List.getElem?_cons_succ, List.getElem?_cons_zero]; try exact rfl)); (case hw => rfl); (case hl => rfl); (case hsp => rfl); (case he => rfl); (case hv => (intro w' hw'; (try have hw2 := Ext.trans hEW hw'); go_simp; exact rfl)); simp only [Act.put, List.setIfInBounds_toArray, List.set_cons_succ, List.set_cons_zero]) | (apply wpR_pass; (case ho => (simp only [List.getElem?_toArray, List.getElem?_cons_succ, List.getElem?_cons_zero]; try exact rfl)); (case hw => rfl); (case hl => rfl); simp only [Act.put, List.setIfInBounds_toArray, List.set_cons_succ, List.set_cons_zero]))
    clear iw iw2
    apply wpR_nil
    apply hN
    intro w5 hE' hK _
    have hk := (hK 10).2
    have os : Own 5 w4.heap.size w5 A6 c6 (betwK y.key x.key) := by
      obtain ⟨A7, c7, n7, z7, e, _, _, ho⟩ := hk
      have e' : Value.tuple #[.slice A6 n6 c6, .bool z6] = Value.tuple #[.slice A7 n7 c7, .bool z7] := e
      simp only [Value.tuple.injEq, Array.mk.injEq, List.cons.injEq, Value.slice.injEq] at e'
      obtain ⟨⟨rfl, _, rfl⟩, _⟩ := e'
      exact ho
    have hE5 := hEW.trans hE'
    have hEw := hE.trans hE5
    have b2 := hE5.blk B2.out
    have b3 := hE5.blk B3.out
    have d1 := hE5.blk D1.out
    have d2 := hE5.blk D2.out
    have o1 := Two.tri TT.out hE5 os h44
    clear hK hN hk ez0 ez1 hEW hE' hW O1 O2 B2 B3 D1 D2 os
    have O1 := Lib.hid o1
    clear o1
    cases z6
    · have HQ := Lib.hid (show partB p q row n = none by
        rw [HQ0.out]
        have := HZ6.out
        cases h : betwB y.key x.key with
        | none => rfl
        | some s => rw [h] at this; cases this)
      go_wp2_with (first | (refine wpList_store_box rfl 26 (.tmp 8) _ rfl (w.heap.size + 1 + 1) _ rfl rfl 26 _ b2 (by kernel_rfl) rfl (by simp [Value.oneCell']) (fun w6 hb hg => ?_); have b3' := blk_other b3 hg (by omega); have hE6 := ext_only hEw hg (by omega); clear b3) | (refine wpList_store_box rfl 26 (.tmp 9) _ rfl (w.heap.size + 1 + 1 + 1) _ rfl rfl 26 _ b3' (by kernel_rfl) rfl (by simp [Value.oneCell']) (fun w7 hb' hg' => ?_)))
      refine bodyPost_ret (results_rrtt rfl _ _ _ _ _ _ _ _ _ _ _ _ rfl (blk_other hb hg' (by omega)) Try.underlying26 rfl (by kernel_rfl) rfl hb' Try.underlying26 rfl (by kernel_rfl)) rfl ⟨_, _, none, 0, by rw [HQ.out]; rfl, by rw [HQ.out]; exact Tri.zero _ _, ext_only hE6 hg' (by omega)⟩
    · have HQ := Lib.hid (show partB p q row n = some ({ p with items := row.take n }, { q with items := row.drop n }, betwK y.key x.key) by
        rw [HQ0.out]
        have := HZ6.out
        cases h : betwB y.key x.key with
        | none => rw [h] at this; cases this
        | some s => rw [betwK_some h]; rfl)
      go_wp2
      refine wp_region_rg (Exc (fun k _ => k = w.heap.size + 1 + 1 ∨ k = w.heap.size + 1 + 1 + 1)) (rel_exc _) (fun w' => w'.heap[w.heap.size + 1 + 1]? = some (.cells #[.int .i64 0, .int .i64 0, .slice none 0 0, .slice none 0 0, .int .i64 0] 26) ∧ w'.heap[w.heap.size + 1 + 1 + 1]? = some (.cells #[.int .i64 0, .int .i64 0, .slice none 0 0, .slice none 0 0, .int .i64 0] 26)) [0, 1, 2, 3, 4, 5, 6] (fun _ => none) (fun i => match i with
        | 3 => some fun _ _ w' => w'.heap[w.heap.size + 1 + 1]? = some (.cells #[.int .i64 p.kind, .int .i64 p.level, .slice iA1 n1 ic1, .slice dA1 p.data.length dc1, .int .i64 p.next] 26) ∧ w'.heap[w.heap.size + 1 + 1 + 1]? = some (.cells #[.int .i64 0, .int .i64 0, .slice none 0 0, .slice none 0 0, .int .i64 0] 26)
        | 4 => some fun _ _ w' => w'.heap[w.heap.size + 1 + 1]? = some (.cells #[.int .i64 p.kind, .int .i64 p.level, .slice iA1 n1 ic1, .slice dA1 p.data.length dc1, .int .i64 p.next] 26) ∧ w'.heap[w.heap.size + 1 + 1 + 1]? = some (.cells #[.int .i64 q.kind, .int .i64 q.level, .slice iA2 n2 ic2, .slice dA2 q.data.length dc2, .int .i64 q.next] 26)
        | _ => none) (fun _ => false) (by kernel_rfl) (by kernel_rfl) (fun _ _ h he => ⟨he.blk h.1, he.blk h.2⟩) ⟨b2, b3⟩ (fun W N hW hF0 hN => ?_)
      have hEW : Exc (fun k _ => k = w.heap.size + 1 + 1 ∨ k = w.heap.size + 1 + 1 + 1) w5 W := Exc.of_ext hW
      have D1 := Lib.hid d1
      have D2 := Lib.hid d2
      clear b2 b3 d1 d2
      have x0 : ∀ w', Exc (fun k _ => k = w.heap.size + 1 + 1 ∨ k = w.heap.size + 1 + 1 + 1) w5 w' → w'.cell? ⟨g1, 0, none⟩ = some (.int .i64 p.kind) := fun w' h => cell_of_row _ _ _ _ _ _ (h.blk D1.out (by omega))
      have x1 : ∀ w', Exc (fun k _ => k = w.heap.size + 1 + 1 ∨ k = w.heap.size + 1 + 1 + 1) w5 w' → w'.cell? ⟨g1, 1, none⟩ = some (.int .i64 p.level) := fun w' h => cell_of_row _ _ _ _ _ _ (h.blk D1.out (by omega))
      have x2 : ∀ w', Exc (fun k _ => k = w.heap.size + 1 + 1 ∨ k = w.heap.size + 1 + 1 + 1) w5 w' → w'.cell? ⟨g1, 2, none⟩ = some (.slice iA1 n1 ic1) := fun w' h => cell_of_row _ _ _ _ _ _ (h.blk D1.out (by omega))
      have x3 : ∀ w', Exc (fun k _ => k = w.heap.size + 1 + 1 ∨ k = w.heap.size + 1 + 1 + 1) w5 w' → w'.cell? ⟨g1, 3, none⟩ = some (.slice dA1 p.data.length dc1) := fun w' h => cell_of_row _ _ _ _ _ _ (h.blk D1.out (by omega))
      have x4 : ∀ w', Exc (fun k _ => k = w.heap.size + 1 + 1 ∨ k = w.heap.size + 1 + 1 + 1) w5 w' → w'.cell? ⟨g1, 4, none⟩ = some (.int .i64 p.next) := fun w' h => cell_of_row _ _ _ _ _ _ (h.blk D1.out (by omega))
      have y0 : ∀ w', Exc (fun k _ => k = w.heap.size + 1 + 1 ∨ k = w.heap.size + 1 + 1 + 1) w5 w' → w'.cell? ⟨g2, 0, none⟩ = some (.int .i64 q.kind) := fun w' h => cell_of_row _ _ _ _ _ _ (h.blk D2.out (by omega))
      have y1 : ∀ w', Exc (fun k _ => k = w.heap.size + 1 + 1 ∨ k = w.heap.size + 1 + 1 + 1) w5 w' → w'.cell? ⟨g2, 1, none⟩ = some (.int .i64 q.level) := fun w' h => cell_of_row _ _ _ _ _ _ (h.blk D2.out (by omega))
      have y2 : ∀ w', Exc (fun k _ => k = w.heap.size + 1 + 1 ∨ k = w.heap.size + 1 + 1 + 1) w5 w' → w'.cell? ⟨g2, 2, none⟩ = some (.slice iA2 n2 ic2) := fun w' h => cell_of_row _ _ _ _ _ _ (h.blk D2.out (by omega))
      have y3 : ∀ w', Exc (fun k _ => k = w.heap.size + 1 + 1 ∨ k = w.heap.size + 1 + 1 + 1) w5 w' → w'.cell? ⟨g2, 3, none⟩ = some (.slice dA2 q.data.length dc2) := fun w' h => cell_of_row _ _ _ _ _ _ (h.blk D2.out (by omega))
      have y4 : ∀ w', Exc (fun k _ => k = w.heap.size + 1 + 1 ∨ k = w.heap.size + 1 + 1 + 1) w5 w' → w'.cell? ⟨g2, 4, none⟩ = some (.int .i64 q.next) := fun w' h => cell_of_row _ _ _ _ _ _ (h.blk D2.out (by omega))
      repeat (first | (apply wpR_one; (case ho => (simp only [List.getElem?_toArray, List.getElem?_cons_succ, List.getElem?_cons_zero]; try exact rfl)); (case hw => rfl); (case hl => rfl); (case hsp => rfl); (case he => rfl); (case hv => (intro w' hw'; (try (have hw2 := Ext.trans hEW hw')); (try (have hw3 := Exc.trans hEW hw')); (try (have hw4 := Exk.trans hEW hw')); (try (have hw5 := Mrk.trans hEW hw')); go_simp; exact rfl)); (case hw0 => (first | exact Below.refl _ _ | exact Exc.of_ext (Below.refl _ _) | exact Exk.of_ext (Below.refl _ _) | exact Mrk.of_ext (Below.refl _ _))); simp only [Act.put, List.setIfInBounds_toArray, List.set_cons_succ, List.set_cons_zero]) | (apply wpR_early; (case ho => (simp only [List.getElem?_toArray, List.getElem?_cons_succ, List.getElem?_cons_zero]; try exact rfl)); (case hw => rfl); (case hl => rfl); (case hsp => rfl); (case he => rfl); (case hv => (intro w' hw'; (try have hw2 := Ext.trans hEW hw'); go_simp; exact rfl)); simp only [Act.put, List.setIfInBounds_toArray, List.set_cons_succ, List.set_cons_zero]) | (apply wpR_pass; (case ho => (simp only [List.getElem?_toArray, List.getElem?_cons_succ, List.getElem?_cons_zero]; try exact rfl)); (case hw => rfl); (case hl => rfl); simp only [Act.put, List.setIfInBounds_toArray, List.set_cons_succ, List.set_cons_zero]))
      refine wpR_late (by ((simp only [List.getElem?_toArray, List.getElem?_cons_succ, List.getElem?_cons_zero]; try exact rfl))) _ rfl rfl (fun V v w' w2 h he => ⟨he.blk h.1, he.blk h.2⟩) (fun V V' h => rfl) (fun w' hw' hK hF => ?_) (fun v hv => ?_)
      · refine opAt_list rfl #[] (fun Q hQ => ?_)
        refine wpList_store_box rfl 26 _ _ rfl (w.heap.size + 1 + 1) _ rfl rfl 26 _ hF.1 (by kernel_rfl) rfl (by simp [Value.oneCell']) (fun w2 hb hg => ?_)
        exact hQ _ _ ⟨Exc.of_only hg (fun _ _ => .inl rfl), hb, blk_other hF.2 hg (by omega)⟩
      clear hv
      simp only [Act.put, List.setIfInBounds_toArray, List.set_cons_succ, List.set_cons_zero]
      refine wpR_late (by ((simp only [List.getElem?_toArray, List.getElem?_cons_succ, List.getElem?_cons_zero]; try exact rfl))) _ rfl rfl (fun V v w' w2 h he => ⟨he.blk h.1, he.blk h.2⟩) (fun V V' h => rfl) (fun w' hw' hK hF => ?_) (fun v hv => ?_)
      · refine opAt_list rfl #[] (fun Q hQ => ?_)
        refine wpList_store_box rfl 26 _ _ rfl (w.heap.size + 1 + 1 + 1) _ rfl rfl 26 _ hF.2 (by kernel_rfl) rfl (by simp [Value.oneCell']) (fun w2 hb hg => ?_)
        exact hQ _ _ ⟨Exc.of_only hg (fun _ _ => .inr rfl), blk_other hF.1 hg (by omega), hb⟩
      clear hv
      simp only [Act.put, List.setIfInBounds_toArray, List.set_cons_succ, List.set_cons_zero]
      repeat (first | (apply wpR_one; (case ho => (simp only [List.getElem?_toArray, List.getElem?_cons_succ, List.getElem?_cons_zero]; try exact rfl)); (case hw => rfl); (case hl => rfl); (case hsp => rfl); (case he => rfl); (case hv => (intro w' hw'; (try (have hw2 := Ext.trans hEW hw')); (try (have hw3 := Exc.trans hEW hw')); (try (have hw4 := Exk.trans hEW hw')); (try (have hw5 := Mrk.trans hEW hw')); go_simp; exact rfl)); (case hw0 => (first | exact Below.refl _ _ | exact Exc.of_ext (Below.refl _ _) | exact Exk.of_ext (Below.refl _ _) | exact Mrk.of_ext (Below.refl _ _))); simp only [Act.put, List.setIfInBounds_toArray, List.set_cons_succ, List.set_cons_zero]) | (apply wpR_early; (case ho => (simp only [List.getElem?_toArray, List.getElem?_cons_succ, List.getElem?_cons_zero]; try exact rfl)); (case hw => rfl); (case hl => rfl); (case hsp => rfl); (case he => rfl); (case hv => (intro w' hw'; (try have hw2 := Ext.trans hEW hw'); go_simp; exact rfl)); simp only [Act.put, List.setIfInBounds_toArray, List.set_cons_succ, List.set_cons_zero]) | (apply wpR_pass; (case ho => (simp only [List.getElem?_toArray, List.getElem?_cons_succ, List.getElem?_cons_zero]; try exact rfl)); (case hw => rfl); (case hl => rfl); simp only [Act.put, List.setIfInBounds_toArray, List.set_cons_succ, List.set_cons_zero]))
      apply wpR_nil
      apply hN
      intro w9 hE9 hK hF
      obtain ⟨r1, r2⟩ := hF
      have hx9 := hEW.trans hE9
      have hE' : Ext w w9 := hx9.to_ext hEw (fun k _ hk => by omega)
      have R1 := Lib.hid (Lot.exc4 hx9 O1.out (fun k _ hk => by omega))
      clear hK hN x0 x1 x2 x3 x4 y0 y1 y2 y3 y4 hEW hE9 hx9 hW hF0
      go_wp2
      refine bodyPost_ret (results_rrtt rfl _ _ _ _ _ _ _ _ _ _ _ _ rfl r1 Try.underlying26 rfl (by kernel_rfl) rfl r2 Try.underlying26 rfl (by kernel_rfl)) rfl ⟨_, _, _, _, by rw [HQ.out, HN6.out]; rfl, by rw [HQ.out]; exact R1.out.mono (by omega), hE'⟩
end Go.Proofs.Ytjjbckdiojleeaa
