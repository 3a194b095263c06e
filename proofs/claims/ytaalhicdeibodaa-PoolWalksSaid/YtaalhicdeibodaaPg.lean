/- Layer 10: Settle. No condition but the sizes. -/
import Derived.Test.YtaalhicdeibodaaPf
namespace Go.Proofs.Ytaalhicdeibodaa
open Go.RowKit Go.Proofs Go.Shelf
set_option linter.unusedVariables false
attribute [local go_sem] Oper.semAt_some
theorem talOf_snoc (l : List Int) (x k : Int) (hk : 1 ≤ k ∧ k ≤ 4) : talOf (l ++ [x]) k = talOf l k + (if x = k then 1 else 0) := by
  unfold talOf
  rw [if_pos hk, if_pos hk, List.count_append, List.count_singleton]
  by_cases e : x = k
  · simp [e]
  · simp [e]
theorem taL_snoc {l : List Int} {sn : Nat} (hn : 1 ≤ sn ∧ sn ≤ 4) : (taL l).set sn ((taL l).getD sn 0 + 1) = taL (l ++ [(sn : Int)]) := by
  have h5 : (taL l).length = 5 := rfl
  refine list5 (by simp [taL]) fun j hj => ?_
  rw [getD_set _ _ _ _ (by rw [h5]; omega), taL_at _ hj, taL_at _ (show sn < 5 by omega)]
  by_cases hj0 : j = 0
  · subst hj0
    rw [if_neg (by omega)]
    rfl
  · rw [talOf_snoc l (sn : Int) (j : Int) ⟨by omega, by omega⟩]
    by_cases e : sn = j
    · subst e
      rw [if_pos rfl, if_pos rfl]
    · rw [if_neg e, if_neg (by omega)]
      omega
theorem free_nil (sts : List Int) : FreeTo sts 0 [] := ⟨trivial, fun x => ⟨fun h => absurd h mem_nil, fun ⟨a, b, _⟩ => by omega⟩⟩
theorem free_skip {sts : List Int} {k : Nat} {L : List Rn} (h : FreeTo sts k L) (hs : sts.getD k 0 ≠ 1) : FreeTo sts (k + 1) L := by
  refine ⟨h.1, fun x => ?_⟩
  rw [h.2]
  constructor
  · rintro ⟨a, b, c⟩
    exact ⟨a, by omega, c⟩
  · rintro ⟨a, b, c⟩
    refine ⟨a, ?_, c⟩
    by_cases e : x = (k : Int) + 1
    · rw [e, show ((k : Int) + 1 - 1).toNat = k by omega] at c
      exact absurd c hs
    · omega
theorem free_add {sts : List Int} {k : Nat} {L : List Rn} (h : FreeTo sts k L) (hs : sts.getD k 0 = 1) : FreeTo sts (k + 1) (addL L ⟨(k : Int) + 1, (k : Int) + 1⟩) := by
  obtain ⟨r1, r2⟩ := addL_ok h.1 ⟨(k : Int) + 1, (k : Int) + 1⟩
  refine ⟨r1, fun x => ?_⟩
  rw [r2, h.2]
  constructor
  · rintro (⟨a, b, c⟩ | ⟨a, b⟩)
    · exact ⟨a, by omega, c⟩
    · simp only at a b
      have e : x = (k : Int) + 1 := by omega
      refine ⟨by omega, by omega, ?_⟩
      rw [e, show ((k : Int) + 1 - 1).toNat = k by omega]
      exact hs
  · rintro ⟨a, b, c⟩
    by_cases e : x = (k : Int) + 1
    · exact .inr ⟨by simp only; omega, by simp only; omega⟩
    · exact .inl ⟨a, by omega, c⟩
/-- What lasts, as far as it was settled. -/
def lastTo (cnt : List Int) (last : List Bool) (k : Nat) : List Bool := (lastOf cnt).take k ++ last.drop k
theorem lastTo_len {cnt : List Int} {last : List Bool} (h : last.length = cnt.length) {k : Nat} (hk : k ≤ cnt.length) : (lastTo cnt last k).length = cnt.length := by
  simp [lastTo, lastOf, h]; omega
theorem lastTo_set {cnt : List Int} {last : List Bool} (h : last.length = cnt.length) {k : Nat} (hk : k < cnt.length) : (lastTo cnt last k).set k (decide (0 < cnt.getD k 0)) = lastTo cnt last (k + 1) := by
  have hlo : (lastOf cnt).length = cnt.length := by simp [lastOf]
  have h1 : k < (lastOf cnt).length := by omega
  unfold lastTo
  rw [List.set_append_right _ _ (by rw [List.length_take]; omega)]
  rw [List.take_succ_eq_append_getElem h1, List.append_assoc]
  congr 1
  rw [List.length_take, Nat.min_eq_left (by omega), Nat.sub_self, List.drop_eq_getElem_cons (by omega : k < last.length), List.set_cons_zero]
  simp [lastOf, List.getD_eq_getElem?_getD, List.getElem?_eq_getElem hk]
theorem lastTo_end {cnt : List Int} {last : List Bool} (h : last.length = cnt.length) : lastTo cnt last cnt.length = lastOf cnt := by
  unfold lastTo
  rw [List.drop_eq_nil_of_le (by omega), List.append_nil, List.take_of_length_le (by simp [lastOf])]
theorem lastTo_at {cnt : List Int} {last : List Bool} (h : last.length = cnt.length) {k : Nat} (hk : k < cnt.length) : (lastTo cnt last (k + 1)).getD k false = decide (0 < cnt.getD k 0) := by
  rw [← lastTo_set h hk, List.getD_eq_getElem?_getD, List.getElem?_set, if_pos rfl, if_pos (by rw [lastTo_len h (by omega)]; exact hk)]
  rfl
theorem lastOf_at {cnt : List Int} {k : Nat} (hk : k < cnt.length) : (lastOf cnt).getD k false = decide (0 < cnt.getD k 0) := by
  simp [lastOf, List.getD_eq_getElem?_getD, List.getElem?_eq_getElem hk]
theorem mark_raw {w : World} {p : Nat} {cs : Array Value} {A : Option Addr} {n c : Nat} {fl : Int} (hd : w.heap[p]? = some (.cells cs 74 (0, 0))) (h9 : cs[9]? = some (.slice A n c)) (h10 : cs[10]? = some (.int .i64 fl)) (hf : 0 ≤ fl ∧ fl ≤ 1000000) (ha : n ≤ 1000000) :
    Calls Try.prog 15 #[.pointer (some ⟨p, 0, none⟩)] w fun e w' => e = .returned (.int .i64 (fl + n)) ∧ Ext w w' := by
  have c1 : ∀ W, Ext w W → W.cell? ⟨p, 9, none⟩ = some (.slice A n c) := fun W hh => by rw [cell_of_row _ _ _ _ _ _ (hh.blk hd), h9]
  have c2 : ∀ W, Ext w W → W.cell? ⟨p, 10, none⟩ = some (.int .i64 fl) := fun W hh => by rw [cell_of_row _ _ _ _ _ _ (hh.blk hd), h10]
  go_enter Try.func15, Try.ntmps15
  go_wp2
  refine wp_region_rg Ext rel_ext (fun _ => True) [0, 1, 2, 3, 4, 5, 6, 7, 8, 9, 10] (fun _ => none) (fun _ => none) (fun _ => false) (by kernel_rfl) (by kernel_rfl) (fun _ _ _ _ => trivial) trivial (fun W N hW _ hN => ?_)
  have hEW := hW
  repeat (first | (apply wpR_one; (case ho => (simp only [List.getElem?_toArray, List.getElem?_cons_succ, List.getElem?_cons_zero]; try exact rfl)); (case hw => rfl); (case hl => rfl); (case hsp => rfl); (case he => rfl); (case hv => (intro w' hw'; (try (have hw2 := Ext.trans hEW hw')); (try (have hw3 := Exc.trans hEW hw')); (try (have hw4 := Exk.trans hEW hw')); (try (have hw5 := Mrk.trans hEW hw')); go_simp; exact rfl)); (case hw0 => (first | exact Below.refl _ _ | exact Exc.of_ext (Below.refl _ _) | exact Exk.of_ext (Below.refl _ _) | exact Mrk.of_ext (Below.refl _ _))); simp only [Act.put, List.setIfInBounds_toArray, List.set_cons_succ, List.set_cons_zero]) | (apply wpR_early; (case ho => (simp only [List.getElem?_toArray, List.getElem?_cons_succ, List.getElem?_cons_zero]; try exact rfl)); (case hw => rfl); (case hl => rfl); (case hsp => rfl); (case he => rfl); (case hv => (intro w' hw'; (try have hw2 := Ext.trans hEW hw'); go_simp; exact rfl)); simp only [Act.put, List.setIfInBounds_toArray, List.set_cons_succ, List.set_cons_zero]) | (apply wpR_pass; (case ho => (simp only [List.getElem?_toArray, List.getElem?_cons_succ, List.getElem?_cons_zero]; try exact rfl)); (case hw => rfl); (case hl => rfl); simp only [Act.put, List.setIfInBounds_toArray, List.set_cons_succ, List.set_cons_zero]))
  apply wpR_nil
  apply hN
  intro w2 hE2 hK _
  have hEE := hEW.trans hE2
  clear hK hN hW hEW hE2 c1 c2
  rw [IntWalk.i64_in (fl + (n : Int)) (by omega)]
  go_wp2
  go_ret
  exact ⟨rfl, hEE⟩
/-- A whole value stored into the midst of a block. -/
theorem wpList_store_partP {P : Program} {ops : Array Oper} {rest : List Oper} {o : Oper} {a : Act} {w : World} {Q : Exit → Act → World → Prop} (hgd : o.guard = none) (ty : TypeId) (x y : Operand) (ho : o.op = .store ty x y)
    (g off : Nat) (vs pre old post : List Value) (hx : a.eval x = .pointer (some ⟨g, off, none⟩)) (hy : a.eval y = .agg vs.toArray) (t : TypeId) (hg : w.heap[g]? = some (.cells (pre ++ old ++ post).toArray t (0, 0)))
    (hp : pre.length = off) (hl : old.length = vs.length) (hi : (P.info? ty).map (·.size) = some vs.length) (h1 : ∀ v ∈ vs, v.oneCell' = true)
    (h : ∀ w', w'.heap[g]? = some (.cells (pre ++ vs ++ post).toArray t (0, 0)) → w.grownBy w' (some g) → wpList P ops Q rest (a.put o.dst undef) w') : wpList P ops Q (o :: rest) a w := by
  obtain ⟨k1, k2⟩ := setCells_part vs pre old post off w hg hp hl
  refine wpList_store_mid hgd ty x y ho g off vs.toArray hx hy (fun j hj => ?_) (by simpa using hi) (all_oneCell_toArray h1) (h _ (by simpa using k1) (by simpa using k2))
  have hj' : j < vs.length := by simpa using hj
  refine ⟨?_, frozen_of_row w g (off + j) _ t hg⟩
  rw [cell_of_row w g (off + j) _ t _ hg]
  simp only [List.getElem?_toArray, Option.isSome_iff_exists]
  exact ⟨_, List.getElem?_eq_getElem (by simp; omega)⟩
/-- The cells of a pool, whatever it holds. -/
def rawC (refs : Int) (cA : Option Addr) (n cc : Nat) (lA : Option Addr) (n2 lc : Nat) (fv t0 t1 t2 t3 t4 : Value) (aA : Option Addr) (na ac : Nat) (fl : Int) : Array Value :=
  #[.int .i64 refs, .slice cA n cc, .slice lA n2 lc, fv, t0, t1, t2, t3, t4, .slice aA na ac, .int .i64 fl]
set_option maxRecDepth 100000 in
set_option maxHeartbeats 1000000 in
theorem settle_raw {B : Nat} {w : World} {p : Nat} {refs : Int} {cA lA aA : Option Addr} {cc lc na ac : Nat} {cnt : List Int} {last : List Bool} {fv t0 t1 t2 t3 t4 : Value} {fl : Int}
    (hd : w.heap[p]? = some (.cells (rawC refs cA cnt.length cc lA last.length lc fv t0 t1 t2 t3 t4 aA na ac fl) 74 (0, 0))) (hcn : RowI B w cA cc cnt) (hla : RowT B w lA lc last) (hBp : B ≤ p) (hBw : B ≤ w.heap.size)
    (hl : last.length = cnt.length) (h6 : cnt.length ≤ 65536) (hcb : ∀ c ∈ cnt, 0 ≤ c ∧ c ≤ 65536) (hfl : 0 ≤ fl ∧ fl ≤ 1000000) (hna : na ≤ 1000000) :
    Calls Try.prog 30 #[.pointer (some ⟨p, 0, none⟩)] w fun e w' => ∃ fp fA fc, e = .returned (.tuple #[]) ∧ w.heap.size ≤ fp ∧
      PoolC B w' ⟨p, cA, cc, lA, lc, fp, fA, fc, none, 0, []⟩ refs cnt (lastOf cnt) [] (fl + na) ∧ (∀ q, blkOf fA = some q → w.heap.size ≤ q) ∧ Exc (fun q _ => q = p ∨ blkOf lA = some q) w w' := by
  have hmk := mark_raw (A := aA) (n := na) (c := ac) (fl := fl) hd rfl rfl hfl hna
  go_enter Try.func30, Try.ntmps30
  go_wp2_with fail
  refine hmk.mono ?_
  rintro e w1 ⟨rfl, hE1⟩
  have hd1 := hE1.blk hd
  have c9 := cell_of_row w1 p 9 _ _ _ hd1
  have c10 := cell_of_row w1 p 10 _ _ _ hd1
  have f9 := frozen_of_row w1 p 9 _ _ hd1
  have f10 := frozen_of_row w1 p 10 _ _ hd1
  simp only [rawC, List.getElem?_toArray, List.getElem?_cons_zero, List.getElem?_cons_succ] at c9 c10
  go_wp2_with fail
  refine calls_cutP (fun W => Exc (fun q _ => q = p) w W ∧ W.heap[p]? = some (.cells (rawC refs cA cnt.length cc lA last.length lc fv t0 t1 t2 t3 t4 none 0 0 (fl + na)) 74 (0, 0))) ⟨((Exc.of_ext hE1).trans (setCell_excp _ _ _ _)).trans (setCell_excp _ _ _ _), heap_setCell_same _ p 9 _ _ (.slice none 0 0) (heap_setCell_same w1 p 10 _ _ (.int .i64 (fl + na)) hd1)⟩ ?_
  clear c9 c10 f9 f10 hd1 hmk
  rintro w2 ⟨hX2, hd2⟩
  have hs2 := hX2.size
  refine (new_anyi (A := none) (c := 0) (l := []) ⟨fun h => absurd h (by decide), Nat.le_refl _, fun z hz => by cases hz⟩ (by decide)).mono ?_
  rintro e w3 ⟨fp, fA, fc, rfl, hfp, hS, hE3⟩
  simp only [List.map_nil, List.foldl_nil] at hS
  have hd3 := hE3.blk hd2
  have hfA : ∀ q, blkOf fA = some q → w.heap.size ≤ q := fun q hq => by
    have := (World.ownsRow.lt hS.row q (by rw [ownBlock_eq]; exact hq)).1
    omega
  have hX3 := hX2.trans (Exc.of_ext hE3 (D := fun q _ => q = p))
  have c3 := cell_of_row w3 p 3 _ _ _ hd3
  have f3 := frozen_of_row w3 p 3 _ _ hd3
  simp only [rawC, List.getElem?_toArray, List.getElem?_cons_zero, List.getElem?_cons_succ] at c3
  have hd4 : (w3.setCell ⟨p, 3, none⟩ (.pointer (some ⟨fp, 0, none⟩))).heap[p]? = some (.cells (([.int .i64 refs, .slice cA cnt.length cc, .slice lA last.length lc, .pointer (some ⟨fp, 0, none⟩)] ++ [t0, t1, t2, t3, t4] ++ [.slice none 0 0, .int .i64 (fl + na)] : List Value)).toArray 74 (0, 0)) := heap_setCell_same w3 p 3 _ _ _ hd3
  have hX4 := hX3.trans (setCell_excp w3 p 3 (.pointer (some ⟨fp, 0, none⟩)))
  clear hd2 hd3
  go_wp2_with (refine wpList_store_partP rfl 71 (.tmp 19) (.tmp 17) rfl p 4 [.int .i64 0, .int .i64 0, .int .i64 0, .int .i64 0, .int .i64 0] _ _ _ rfl rfl 74 hd4 rfl rfl (by kernel_rfl) (by intro v hv; simp only [List.mem_cons, List.not_mem_nil, or_false] at hv; rcases hv with rfl | rfl | rfl | rfl | rfl <;> rfl) ?_; intro w5 hd5 hg5; have c1 : w5.cell? ⟨p, 1, none⟩ = some (.slice cA cnt.length cc) := by rw [cell_of_row w5 p 1 _ _ _ hd5]; rfl)
  have hX5 := hX4.trans (Exc.of_grown hg5 (fun q o h _ => by injection h with h; exact h.symm) : Exc (fun q _ => q = p) _ w5)
  obtain ⟨sts, hsts⟩ : ∃ l, stsOf cnt (lastOf cnt) = l := ⟨_, rfl⟩
  have hlo : (lastOf cnt).length = cnt.length := by simp [lastOf]
  have hsl : sts.length = cnt.length := by rw [← hsts, sts_len hlo]
  have hsat : ∀ k, k < cnt.length → sts.getD k 0 = stOf (cnt.getD k 0) (decide (0 < cnt.getD k 0)) := fun k hk => by rw [← hsts, sts_at hlo hk, lastOf_at hk]
  have hM0 : PoolM B w5 ⟨p, cA, cc, lA, lc, fp, fA, fc, none, 0, []⟩ refs cnt (lastTo cnt last 0) [] (taL (sts.take 0)) [] (fl + na) := by
    have e0 : lastTo cnt last 0 = last := by simp [lastTo]
    rw [e0]
    have hpf : fp ≠ p := by have := (Array.getElem?_eq_some_iff.1 hd).1; omega
    have hg45 : Exc (fun q _ => q = p) w3 w5 := (setCell_excp w3 p 3 _).trans (Exc.of_grown hg5 (fun q o h _ => by injection h with h; exact h.symm))
    refine ⟨hd5, own_out hcn hX5 ?_, own_out hla hX5 ?_, ⟨hg45.blk hS.hd hpf, own_out (own_mono hS.row (by omega)) hg45 ?_, hS.wf, hS.bd⟩, World.ownsRow_nil _ _ _ _, fun i a b ha => (by cases ha), fun b hb => (by cases hb), hBp, (by show B ≤ fp; omega), fun b hb => (by cases hb), rfl⟩
    · rintro b o hb rfl
      exact own_not hcn hd (by decide) hb
    · rintro b o hb rfl
      exact own_not hla hd (by decide) hb
    · rintro b o hb rfl
      have := (World.ownsRow.lt hS.row _ hb).1
      have := (Array.getElem?_eq_some_iff.1 hd).1
      omega
  have hX5' : Exc (fun q _ => q = p ∨ blkOf lA = some q) w w5 := ⟨hX5.os, hX5.tape, hX5.output, hX5.size, fun q o ho hn => hX5.block q o ho (fun e => hn (.inl e))⟩
  have HSTS := Lib.hid hsts
  have hF0 := free_nil sts
  clear hsts hd4 hd5 hg5 hX4 hX5 hX3 c3 f3 hX2 hd
  go_loopw [25] (fun i wr => ∃ (k : Nat) (A' : Option Addr) (c' : Nat) (L : List Rn), k ≤ cnt.length ∧ i = .int .i64 k ∧ PoolM B wr ⟨p, cA, cc, lA, lc, fp, A', c', none, 0, []⟩ refs cnt (lastTo cnt last k) L (taL (sts.take k)) [] (fl + na) ∧ FreeTo sts k L ∧ (∀ q, blkOf A' = some q → w.heap.size ≤ q) ∧ Exc (fun q _ => q = p ∨ blkOf lA = some q) w wr) (fun i _ => cnt.length - (intOf i).toNat)
  case atStart => exact ⟨0, fA, fc, [], Nat.zero_le _, rfl, hM0, hF0, hfA, hX5'⟩
  case round =>
    clear hM0 hF0 hfA hX5' c1
    obtain ⟨k, A', c', L, hk, rfl, hM, hF, hA, hX⟩ := hrel
    rename World => v1
    by_cases hkl : k < cnt.length
    · have hlk := lastTo_len hl (Nat.le_of_lt hkl)
      obtain ⟨g, hg, hcc, _, d1, _⟩ := hM.cn.at hkl
      obtain ⟨gl, hgl, hlc, _, d2, f2⟩ := hM.la.at (i := k) (by omega)
      simp only at hg hgl hcc hlc
      have hst := lastTo_set hl hkl
      have hM1 : PoolM B (v1.setCell ⟨gl, k, none⟩ (.bool (decide (0 < cnt.getD k 0)))) ⟨p, cA, cc, lA, lc, fp, A', c', none, 0, []⟩ refs cnt (lastTo cnt last (k + 1)) L (taL (sts.take k)) [] (fl + na) := by
        have hx := setCell_excp v1 gl k (.bool (decide (0 < cnt.getD k 0)))
        have hgb : ∀ q, blkOf lA = some q ↔ q = gl := fun q => by rw [hgl]; exact ⟨fun e => by injection e with e; exact e.symm, fun e => by rw [e]; rfl⟩
        refine hM.turnL ⟨hx.os, hx.tape, hx.output, hx.size, fun q o ho hn => hx.block q o ho (fun e => hn ((hgb q).2 e))⟩ ?_ (by rw [lastTo_len hl (by omega), lastTo_len hl (by omega)])
        have hh := hM.la
        simp only at hh
        rw [hgl] at hh
        rw [← hst]
        simp only
        rw [hgl]
        exact hh.store (by omega) _
      have hX1 : Exc (fun q _ => q = p ∨ blkOf lA = some q) w (v1.setCell ⟨gl, k, none⟩ (.bool (decide (0 < cnt.getD k 0)))) := by
        have hx := setCell_excp v1 gl k (.bool (decide (0 < cnt.getD k 0)))
        exact hX.trans ⟨hx.os, hx.tape, hx.output, hx.size, fun q o ho hn => hx.block q o ho (fun e => hn (.inr (by rw [e, hgl]; rfl)))⟩
      have c2 : v1.cell? ⟨p, 2, none⟩ = some (.slice (some ⟨gl, 0, none⟩) cnt.length lc) := by rw [← hgl, ← hlk]; exact hM.c 2
      have hs1 := hsat k hkl
      have hcb1 := hcb _ (List.mem_of_getElem? (List.getElem?_eq_getElem hkl))
      have hcD : cnt[k] = cnt.getD k 0 := by simp [List.getD_eq_getElem?_getD, List.getElem?_eq_getElem hkl]
      rw [hcD] at hcb1
      have hst1 := state_any hM1 (lastTo_len hl (by omega)) h6 ((k : Int) + 1)
      have est : stAt cnt (lastTo cnt last (k + 1)) ((k : Int) + 1) = sts.getD k 0 := by
        unfold stAt
        rw [if_pos ⟨by omega, by omega⟩, show ((k : Int) + 1 - 1).toNat = k by omega, lastTo_at hl hkl, hs1]
      obtain ⟨c, hc⟩ : ∃ c, cnt.getD k 0 = c := ⟨_, rfl⟩
      have hkcc : k < cc := by omega
      have hklc : k < lc := by omega
      rw [hc] at d1 hM1 hX1 hs1 hcb1 hst1
      obtain ⟨sn, hsn⟩ : ∃ n : Nat, sts.getD k 0 = (n : Int) := ⟨(sts.getD k 0).toNat, by have := stOf_bd c (decide (0 < c)); omega⟩
      have hsb := stOf_bd c (decide (0 < c))
      rw [hsn] at est hs1
      rw [← hs1] at hsb
      have hs1F : (sn : Int) = 1 ↔ c = 0 := by
        rw [hs1]
        unfold stOf
        by_cases h0 : 0 < c
        · rw [if_pos h0, decide_eq_true h0]
          simp
          omega
        · rw [if_neg h0, decide_eq_false h0]
          simp
          omega
      have hsn5 : sn < 5 := by omega
      have HEST := Lib.hid est
      have HSN := Lib.hid hsn
      have hLen := free_len hF
      have HF := Lib.hid hF
      clear hcD hc hst hst1 hM hX est hsn hs1
      go_wp2
      refine wp_cut (fun W => PoolM B W ⟨p, cA, cc, lA, lc, fp, A', c', none, 0, []⟩ refs cnt (lastTo cnt last (k + 1)) L (taL (sts.take k)) [] (fl + na) ∧ Exc (fun q _ => q = p ∨ blkOf lA = some q) w W) ⟨hM1, hX1⟩ ?_
      rintro v2 ⟨hM2, hX2⟩
      clear hM1 hX1 d1 d2 f2 c2 hg hgl hlk
      have htb : 0 ≤ (taL (sts.take k)).getD sn 0 ∧ (taL (sts.take k)).getD sn 0 ≤ 65536 := by
        rw [taL_at _ hsn5]
        have := tal_bd (sts.take k) sn
        rw [List.length_take] at this
        omega
      have htn : (taL (sts.take k)).set sn ((taL (sts.take k)).getD sn 0 + 1) = taL (sts.take (k + 1)) := by
        rw [taL_snoc (by omega), List.take_succ_eq_append_getElem (by omega : k < sts.length)]
        have := HSN.out
        rw [List.getD_eq_getElem?_getD, List.getElem?_eq_getElem (by omega : k < sts.length), Option.getD_some] at this
        rw [this]
      obtain ⟨ta, hta⟩ : ∃ l, taL (sts.take k) = l := ⟨_, rfl⟩
      obtain ⟨ta2, hta2⟩ : ∃ l, taL (sts.take (k + 1)) = l := ⟨_, rfl⟩
      rw [hta] at hM2 htb htn
      rw [hta2] at htn
      obtain ⟨tb, htbv⟩ : ∃ z, ta.getD sn 0 = z := ⟨_, rfl⟩
      rw [htbv] at htb htn
      have hX3 : ∀ V, PoolM B V ⟨p, cA, cc, lA, lc, fp, A', c', none, 0, []⟩ refs cnt (lastTo cnt last (k + 1)) L ta [] (fl + na) → PoolM B (V.setCell ⟨p, 4 + sn, none⟩ (.int .i64 (IntKind.i64.wrap (tb + 1)))) ⟨p, cA, cc, lA, lc, fp, A', c', none, 0, []⟩ refs cnt (lastTo cnt last (k + 1)) L ta2 [] (fl + na) := fun V hV => by
        rw [IntWalk.i64_in (tb + 1) (by omega), ← htn]
        exact hV.setTal hsn5 _
      have HTA2 := Lib.hid hta2
      have HTB := Lib.hid htbv
      clear hta hta2 htbv htn
      have hi1 : (sn : Int) < 5 := by omega
      have hi0 : ¬ (sn : Int) < 0 := by omega
      refine wp_region_rg (Exc fun q _ => q = p) (rel_exc _) (fun V => PoolM B V ⟨p, cA, cc, lA, lc, fp, A', c', none, 0, []⟩ refs cnt (lastTo cnt last (k + 1)) L ta [] (fl + na)) [0, 1, 2, 3, 5, 6, 10, 11, 4, 7, 8, 9, 12, 13] (fun _ => none) (fun i => match i with
        | 4 => some fun _ z V => z = .int .i64 sn ∧ PoolM B V ⟨p, cA, cc, lA, lc, fp, A', c', none, 0, []⟩ refs cnt (lastTo cnt last (k + 1)) L ta [] (fl + na)
        | 8 => some fun _ z V => z = .int .i64 tb ∧ PoolM B V ⟨p, cA, cc, lA, lc, fp, A', c', none, 0, []⟩ refs cnt (lastTo cnt last (k + 1)) L ta [] (fl + na)
        | 13 => some fun _ _ V => PoolM B V ⟨p, cA, cc, lA, lc, fp, A', c', none, 0, []⟩ refs cnt (lastTo cnt last (k + 1)) L ta2 [] (fl + na)
        | _ => none) (fun _ => false) (by kernel_rfl) (by kernel_rfl) (fun _ _ h he => h.ext he) (hM2.ext (Below.refl _ _).drew) (fun W N hW hF0 hN => ?_)
      have hEW : Exc (fun q _ => q = p) W W := exc_refl _ _
      repeat (first | (apply wpR_one; (case ho => (simp only [List.getElem?_toArray, List.getElem?_cons_succ, List.getElem?_cons_zero]; try exact rfl)); (case hw => rfl); (case hl => rfl); (case hsp => rfl); (case he => rfl); (case hv => (intro w' hw'; (try (have hw2 := Ext.trans hEW hw')); (try (have hw3 := Exc.trans hEW hw')); (try (have hw4 := Exk.trans hEW hw')); (try (have hw5 := Mrk.trans hEW hw')); go_simp; exact rfl)); (case hw0 => (first | exact Below.refl _ _ | exact Exc.of_ext (Below.refl _ _) | exact Exk.of_ext (Below.refl _ _) | exact Mrk.of_ext (Below.refl _ _))); simp only [Act.put, List.setIfInBounds_toArray, List.set_cons_succ, List.set_cons_zero]) | (apply wpR_early; (case ho => (simp only [List.getElem?_toArray, List.getElem?_cons_succ, List.getElem?_cons_zero]; try exact rfl)); (case hw => rfl); (case hl => rfl); (case hsp => rfl); (case he => rfl); (case hv => (intro w' hw'; (try have hw2 := Ext.trans hEW hw'); go_simp; exact rfl)); simp only [Act.put, List.setIfInBounds_toArray, List.set_cons_succ, List.set_cons_zero]) | (apply wpR_pass; (case ho => (simp only [List.getElem?_toArray, List.getElem?_cons_succ, List.getElem?_cons_zero]; try exact rfl)); (case hw => rfl); (case hl => rfl); simp only [Act.put, List.setIfInBounds_toArray, List.set_cons_succ, List.set_cons_zero]))
      rw [show IntKind.i64.wrap ((k : Int) + 1) = (k : Int) + 1 from IntWalk.i64_in _ (by omega)]
      refine wpR_late (by ((simp only [List.getElem?_toArray, List.getElem?_cons_succ, List.getElem?_cons_zero]; try exact rfl))) _ rfl rfl (fun V v => fun _ _ h he => ⟨h.1, PoolM.ext h.2 he⟩) (fun V V' h => rfl) (fun w' hw' hK hF => ?_) (fun v hv => ?_)
      · have hF2 : PoolM B w' ⟨p, cA, cc, lA, lc, fp, A', c', none, 0, []⟩ refs cnt (lastTo cnt last (k + 1)) L ta [] (fl + na) := hF
        have hst := state_any hF2 (lastTo_len hl (by omega)) h6 ((k : Int) + 1)
        rw [HEST.out] at hst
        dsimp only at hst
        unfold opAt; go_simp; refine upAt_enter ?_
        refine hst.mono ?_
        rintro e w9 ⟨rfl, rfl⟩
        exact ⟨_, rfl, exc_refl _ _, rfl, hF2⟩
      obtain ⟨_, _, rfl, _⟩ := hv
      simp only [Act.put, List.setIfInBounds_toArray, List.set_cons_succ, List.set_cons_zero]
      repeat (first | (apply wpR_one; (case ho => (simp only [List.getElem?_toArray, List.getElem?_cons_succ, List.getElem?_cons_zero]; try exact rfl)); (case hw => rfl); (case hl => rfl); (case hsp => rfl); (case he => rfl); (case hv => (intro w' hw'; (try (have hw2 := Ext.trans hEW hw')); (try (have hw3 := Exc.trans hEW hw')); (try (have hw4 := Exk.trans hEW hw')); (try (have hw5 := Mrk.trans hEW hw')); go_simp; exact rfl)); (case hw0 => (first | exact Below.refl _ _ | exact Exc.of_ext (Below.refl _ _) | exact Exk.of_ext (Below.refl _ _) | exact Mrk.of_ext (Below.refl _ _))); simp only [Act.put, List.setIfInBounds_toArray, List.set_cons_succ, List.set_cons_zero]) | (apply wpR_early; (case ho => (simp only [List.getElem?_toArray, List.getElem?_cons_succ, List.getElem?_cons_zero]; try exact rfl)); (case hw => rfl); (case hl => rfl); (case hsp => rfl); (case he => rfl); (case hv => (intro w' hw'; (try have hw2 := Ext.trans hEW hw'); go_simp; exact rfl)); simp only [Act.put, List.setIfInBounds_toArray, List.set_cons_succ, List.set_cons_zero]) | (apply wpR_pass; (case ho => (simp only [List.getElem?_toArray, List.getElem?_cons_succ, List.getElem?_cons_zero]; try exact rfl)); (case hw => rfl); (case hl => rfl); simp only [Act.put, List.setIfInBounds_toArray, List.set_cons_succ, List.set_cons_zero]))
      refine wpR_late (by ((simp only [List.getElem?_toArray, List.getElem?_cons_succ, List.getElem?_cons_zero]; try exact rfl))) _ rfl rfl (fun V v => fun _ _ h he => ⟨h.1, PoolM.ext h.2 he⟩) (fun V V' h => rfl) (fun w' hw' hK hF => ?_) (fun v hv => ?_)
      · have hF2 : PoolM B w' ⟨p, cA, cc, lA, lc, fp, A', c', none, 0, []⟩ refs cnt (lastTo cnt last (k + 1)) L ta [] (fl + na) := hF.2
        have c4 : w'.cell? ⟨p, 4 + sn, none⟩ = some (.int .i64 tb) := by rw [← HTB.out]; exact hF2.c4 hsn5
        clear hF
        unfold opAt
        go_simp
        exact upAt_value ⟨exc_refl _ _, rfl, hF2⟩
      obtain ⟨_, _, rfl, _⟩ := hv
      simp only [Act.put, List.setIfInBounds_toArray, List.set_cons_succ, List.set_cons_zero]
      repeat (first | (apply wpR_one; (case ho => (simp only [List.getElem?_toArray, List.getElem?_cons_succ, List.getElem?_cons_zero]; try exact rfl)); (case hw => rfl); (case hl => rfl); (case hsp => rfl); (case he => rfl); (case hv => (intro w' hw'; (try (have hw2 := Ext.trans hEW hw')); (try (have hw3 := Exc.trans hEW hw')); (try (have hw4 := Exk.trans hEW hw')); (try (have hw5 := Mrk.trans hEW hw')); go_simp; exact rfl)); (case hw0 => (first | exact Below.refl _ _ | exact Exc.of_ext (Below.refl _ _) | exact Exk.of_ext (Below.refl _ _) | exact Mrk.of_ext (Below.refl _ _))); simp only [Act.put, List.setIfInBounds_toArray, List.set_cons_succ, List.set_cons_zero]) | (apply wpR_early; (case ho => (simp only [List.getElem?_toArray, List.getElem?_cons_succ, List.getElem?_cons_zero]; try exact rfl)); (case hw => rfl); (case hl => rfl); (case hsp => rfl); (case he => rfl); (case hv => (intro w' hw'; (try have hw2 := Ext.trans hEW hw'); go_simp; exact rfl)); simp only [Act.put, List.setIfInBounds_toArray, List.set_cons_succ, List.set_cons_zero]) | (apply wpR_pass; (case ho => (simp only [List.getElem?_toArray, List.getElem?_cons_succ, List.getElem?_cons_zero]; try exact rfl)); (case hw => rfl); (case hl => rfl); simp only [Act.put, List.setIfInBounds_toArray, List.set_cons_succ, List.set_cons_zero]))
      refine wpR_late (by ((simp only [List.getElem?_toArray, List.getElem?_cons_succ, List.getElem?_cons_zero]; try exact rfl))) _ rfl rfl (fun V v => fun _ _ h he => PoolM.ext h he) (fun V V' h => rfl) (fun w' hw' hK hF => ?_) (fun v hv => ?_)
      · have hF2 : PoolM B w' ⟨p, cA, cc, lA, lc, fp, A', c', none, 0, []⟩ refs cnt (lastTo cnt last (k + 1)) L ta [] (fl + na) := hF.2
        have f4 := hF2.f (4 + sn)
        have c5 : w'.cell? ⟨p, 4 + sn, none⟩ = some (.int .i64 tb) := by rw [← HTB.out]; exact hF2.c4 hsn5
        have h7 := hX3 _ hF2
        dsimp only at f4
        clear hF hF2
        unfold opAt
        go_simp
        exact ⟨undef, rfl, setCell_excp _ _ _ _, h7⟩
      clear hv
      simp only [Act.put, List.setIfInBounds_toArray, List.set_cons_succ, List.set_cons_zero]
      apply wpR_nil
      apply hN
      intro w7 hE7 hK hF
      have h7 : PoolM B w7 ⟨p, cA, cc, lA, lc, fp, A', c', none, 0, []⟩ refs cnt (lastTo cnt last (k + 1)) L ta2 [] (fl + na) := hF
      have hX7 : Exc (fun q _ => q = p ∨ blkOf lA = some q) w w7 := (hX2.trans (Exc.of_ext hW)).trans ⟨hE7.os, hE7.tape, hE7.output, hE7.size, fun q o ho hn => hE7.block q o ho (fun e => hn (.inl e))⟩
      have c3 : w7.cell? ⟨p, 3, none⟩ = some (.pointer (some ⟨fp, 0, none⟩)) := h7.c 3
      clear hK hN hF hX3 hEW hE7 hW hF0 hM2 hX2 hi0 hi1
      by_cases h0 : c = 0
      · have hs1 : sts.getD k 0 = 1 := by rw [HSN.out]; exact hs1F.2 h0
        have hFn := free_add HF.out hs1
        have hbd : Bdi ⟨(k : Int) + 1, (k : Int) + 1⟩ := ⟨⟨by show _ ≤ (k : Int) + 1; omega, by show (k : Int) + 1 ≤ _; omega⟩, by show _ ≤ (k : Int) + 1; omega, by show (k : Int) + 1 ≤ _; omega⟩
        have hc1 : c ≤ 0 := by omega
        have hc2 : 0 ≤ c := by omega
        have hs7 := hX7.size
        clear hs1 h0 hs1F
        go_wp2_with fail
        refine (add_allFi h7.fr (by omega) hbd h7.geF (by omega)).mono ?_
        rintro e w8 ⟨A8, c8, rfl, hS8, hX8, hr8⟩
        have h8 := h7.turnF hX8 hS8
        have hA8 : ∀ q, blkOf A8 = some q → w.heap.size ≤ q := fun q hq => by
          rcases hr8 with hr | ⟨rfl, _, _⟩
          · have := (World.ownsRow.lt hr q (by rw [ownBlock_eq]; exact hq)).1
            omega
          · exact hA q hq
        have hX9 : Exc (fun q _ => q = p ∨ blkOf lA = some q) w w8 := by
          refine ⟨hX8.os.trans hX7.os, hX8.tape.trans hX7.tape, hX8.output.trans hX7.output, Nat.le_trans hX7.size hX8.size, fun q o ho hn => ?_⟩
          refine hX8.block q o (hX7.block q o ho hn) (fun e => ?_)
          have := (Array.getElem?_eq_some_iff.1 ho).1
          dsimp only at e
          omega
        rw [HTA2.out.symm] at h8
        clear hS8 hX8 hr8 h7 hX7 c3
        go_wp2
        go_roundw
        case rel => exact ⟨k + 1, A8, c8, _, by omega, by go_num, h8, hFn, hA8, hX9⟩
        case measure => simp [intOf]; omega
      · have hs1 : sts.getD k 0 ≠ 1 := by rw [HSN.out]; exact fun h => h0 (hs1F.1 h)
        have hFn := free_skip HF.out hs1
        rw [HTA2.out.symm] at h7
        clear hs1 hs1F c3
        go_wp2
        go_roundw
        case rel => exact ⟨k + 1, A', c', L, by omega, by go_num, h7, hFn, hA, hX7⟩
        case measure => simp [intOf]; omega
    · obtain rfl : k = cnt.length := by omega
      rw [lastTo_end hl, List.take_of_length_le (by omega)] at hM
      have hC : PoolC B v1 ⟨p, cA, cc, lA, lc, fp, A', c', none, 0, []⟩ refs cnt (lastOf cnt) [] (fl + na) := ⟨L, by rw [HSTS.out]; exact hM, by rw [HSTS.out]; show FreeTo sts sts.length L; rw [hsl]; exact hF⟩
      clear hM hF
      go_wp2
      go_end0
      exact ⟨fp, A', c', rfl, by omega, hC, hA, hX⟩
end Go.Proofs.Ytaalhicdeibodaa
