/- Layer 10: the document's pool in memory; calls that look at it, turn. No condition but the sizes. -/
import Derived.Test.YtaalhicdeibodaaPj
namespace Go.Proofs.Ytaalhicdeibodaa
open Go.RowKit Go.Proofs Go.Shelf
set_option linter.unusedVariables false
attribute [local go_sem] Oper.semAt_some
structure Rm where
  p : Nat
  cA : Option Addr
  cc : Nat
  lA : Option Addr
  lc : Nat
  aA : Option Addr
  ac : Nat
abbrev actC (a : Int × Int) : List Value := [.int .i64 a.1, .int .i64 a.2]
def refC (r : Rm) (refs : Int) (n1 n2 na : Nat) (fl : Int) : Array Value := #[.int .i64 refs, .slice r.cA n1 r.cc, .slice r.lA n2 r.lc, .slice r.aA na r.ac, .int .i64 fl]
structure RefM (B : Nat) (w : World) (r : Rm) (refs : Int) (cnt : List Int) (last : List Bool) (az : List (Int × Int)) (fl : Int) : Prop where
  hd : w.heap[r.p]? = some (.cells (refC r refs cnt.length last.length az.length fl) 89 (0, 0))
  cn : RowI B w r.cA r.cc cnt
  la : RowT B w r.lA r.lc last
  ac : w.ownsRow B 96 2 (.slice r.aA az.length r.ac) az.length (az.flatMap actC)
  geP : B ≤ r.p
def Rm.foot (r : Rm) (q : Nat) : Prop := q = r.p ∨ blkOf r.cA = some q ∨ blkOf r.lA = some q ∨ blkOf r.aA = some q
structure RMoved (m m' : Rm) (w w' : World) : Prop where
  p : m'.p = m.p
  x : Exc (fun q _ => m.foot q) w w'
  foot : ∀ q, m'.foot q → m.foot q ∨ w.heap.size ≤ q
theorem RMoved.refl (m : Rm) (w : World) : RMoved m m w w := ⟨rfl, exc_refl _ _, fun _ h => .inl h⟩
theorem RMoved.of_ext {m : Rm} {w w' : World} (h : Ext w w') : RMoved m m w w' := ⟨rfl, Exc.of_ext h, fun _ h => .inl h⟩
theorem RMoved.trans {m m1 m2 : Rm} {w w1 w2 : World} (h : RMoved m m1 w w1) (k : RMoved m1 m2 w1 w2) : RMoved m m2 w w2 := by
  refine ⟨k.p.trans h.p, ⟨k.x.os.trans h.x.os, k.x.tape.trans h.x.tape, k.x.output.trans h.x.output, Nat.le_trans h.x.size k.x.size, fun q o ho hn => ?_⟩, fun q hq => ?_⟩
  · have h1 := h.x.block q o ho hn
    refine k.x.block q o h1 fun e => ?_
    rcases h.foot q e with e | e
    · exact hn e
    · have := (Array.getElem?_eq_some_iff.1 ho).1
      omega
  · rcases k.foot q hq with e | e
    · exact h.foot q e
    · exact .inr (Nat.le_trans h.x.size e)
theorem az_len (az : List (Int × Int)) : (az.flatMap actC).length = az.length * 2 := by
  induction az with
  | nil => rfl
  | cons x l ih => rw [List.flatMap_cons, List.length_append, ih]; simp; omega
theorem az_at : ∀ (az : List (Int × Int)) (k : Nat) (a : Int × Int), az[k]? = some a → (az.flatMap actC)[k * 2]? = some (.int .i64 a.1) ∧ (az.flatMap actC)[k * 2 + 1]? = some (.int .i64 a.2)
  | [], k, a, h => by simp at h
  | x :: l, 0, a, h => by
    simp only [List.getElem?_cons_zero, Option.some.injEq] at h
    subst h
    exact ⟨rfl, rfl⟩
  | x :: l, k + 1, a, h => by
    have := az_at l k a (by simpa using h)
    rw [List.flatMap_cons]
    rw [show (k + 1) * 2 = (actC x).length + k * 2 by simp; omega, show (actC x).length + k * 2 + 1 = (actC x).length + (k * 2 + 1) by omega]
    rw [List.getElem?_append_right (by omega), List.getElem?_append_right (by omega)]
    simpa using this
section
variable {B : Nat} {w : World} {r : Rm} {refs : Int} {cnt : List Int} {last : List Bool} {az : List (Int × Int)} {fl : Int}
theorem RefM.exc {D : Nat → Obj → Prop} {w' : World} (h : RefM B w r refs cnt last az fl) (hx : Exc D w w') (hd : ∀ q o, r.foot q → ¬ D q o) : RefM B w' r refs cnt last az fl := by
  refine ⟨hx.blk h.hd (hd _ _ (.inl rfl)), own_out h.cn hx fun b o hb => hd _ _ (.inr (.inl ?_)), own_out h.la hx fun b o hb => hd _ _ (.inr (.inr (.inl ?_))), own_out h.ac hx fun b o hb => hd _ _ (.inr (.inr (.inr ?_))), h.geP⟩
  all_goals rwa [ownBlock_eq] at hb
theorem RefM.ext {w' : World} (h : RefM B w r refs cnt last az fl) (hx : Ext w w') : RefM B w' r refs cnt last az fl :=
  h.exc (D := fun _ _ => False) (Exc.of_ext hx) (fun _ _ _ h => h)
theorem RefM.foot_lt (h : RefM B w r refs cnt last az fl) {q : Nat} (hq : r.foot q) : B ≤ q ∧ q < w.heap.size := by
  rcases hq with rfl | hq | hq | hq
  · exact ⟨h.geP, (Array.getElem?_eq_some_iff.1 h.hd).1⟩
  · exact World.ownsRow.lt h.cn q (by rw [ownBlock_eq]; exact hq)
  · exact World.ownsRow.lt h.la q (by rw [ownBlock_eq]; exact hq)
  · exact World.ownsRow.lt h.ac q (by rw [ownBlock_eq]; exact hq)
theorem RefM.c (h : RefM B w r refs cnt last az fl) (i : Nat) : w.cell? ⟨r.p, i, none⟩ = (refC r refs cnt.length last.length az.length fl)[i]? := cell_of_row _ _ _ _ _ _ h.hd
theorem RefM.f (h : RefM B w r refs cnt last az fl) (i : Nat) : w.frozen? ⟨r.p, i, none⟩ = false := frozen_of_row _ _ _ _ _ h.hd
theorem RefM.turnC {w' : World} {cnt' : List Int} (h : RefM B w r refs cnt last az fl) (hx : Exc (fun q _ => blkOf r.cA = some q) w w')
    (hc : RowI B w' r.cA r.cc cnt') (hl : cnt'.length = cnt.length) : RefM B w' r refs cnt' last az fl := by
  have hob : ∀ q, blkOf r.cA = some q → (Value.slice r.cA cnt.length r.cc).ownBlock = some q := fun q hq => by rw [ownBlock_eq]; exact hq
  refine ⟨hx.blk (by rw [hl]; exact h.hd) (fun e => own_not h.cn h.hd (by decide) (hob _ e)), hc, own_out h.la hx ?_, own_out h.ac hx ?_, h.geP⟩
  · rintro b o hb e
    obtain ⟨_, cs, hg⟩ := own_blk h.la hb
    exact own_not h.cn hg (by decide) (hob _ e)
  · rintro b o hb e
    obtain ⟨_, cs, hg⟩ := own_blk h.ac hb
    exact own_not h.cn hg (by decide) (hob _ e)
theorem RefM.turnL {w' : World} {last' : List Bool} (h : RefM B w r refs cnt last az fl) (hx : Exc (fun q _ => blkOf r.lA = some q) w w')
    (hc : RowT B w' r.lA r.lc last') (hl : last'.length = last.length) : RefM B w' r refs cnt last' az fl := by
  have hob : ∀ q, blkOf r.lA = some q → (Value.slice r.lA last.length r.lc).ownBlock = some q := fun q hq => by rw [ownBlock_eq]; exact hq
  refine ⟨hx.blk (by rw [hl]; exact h.hd) (fun e => own_not h.la h.hd (by decide) (hob _ e)), own_out h.cn hx ?_, hc, own_out h.ac hx ?_, h.geP⟩
  · rintro b o hb e
    obtain ⟨_, cs, hg⟩ := own_blk h.cn hb
    exact own_not h.la hg (by decide) (hob _ e)
  · rintro b o hb e
    obtain ⟨_, cs, hg⟩ := own_blk h.ac hb
    exact own_not h.la hg (by decide) (hob _ e)
/-- The pool's own block turned, its row of acts perhaps too. -/
theorem RefM.turnP {w' : World} {fl' : Int} {A : Option Addr} {c : Nat} {az' : List (Int × Int)} (h : RefM B w r refs cnt last az fl) (hx : Exc (fun q _ => q = r.p) w w')
    (hd : w'.heap[r.p]? = some (.cells (refC { r with aA := A, ac := c } refs cnt.length last.length az'.length fl') 89 (0, 0)))
    (ha : w.ownsRow B 96 2 (.slice A az'.length c) az'.length (az'.flatMap actC)) : RefM B w' { r with aA := A, ac := c } refs cnt last az' fl' := by
  refine ⟨hd, own_out h.cn hx ?_, own_out h.la hx ?_, own_out ha hx ?_, h.geP⟩
  · rintro b o hb rfl
    exact own_not h.cn h.hd (by decide) hb
  · rintro b o hb rfl
    exact own_not h.la h.hd (by decide) hb
  · rintro b o hb rfl
    exact own_not ha h.hd (by decide) hb
/-- The row of acts has grown behind its end. -/
theorem RefM.turnA {w' : World} (h : RefM B w r refs cnt last az fl) (hx : Exc (fun q _ => blkOf r.aA = some q) w w')
    (ha : w'.ownsRow B 96 2 (.slice r.aA az.length r.ac) az.length (az.flatMap actC)) : RefM B w' r refs cnt last az fl := by
  have hob : ∀ q, blkOf r.aA = some q → (Value.slice r.aA az.length r.ac).ownBlock = some q := fun q hq => by rw [ownBlock_eq]; exact hq
  refine ⟨hx.blk h.hd (fun e => own_not h.ac h.hd (by decide) (hob _ e)), own_out h.cn hx ?_, own_out h.la hx ?_, ha, h.geP⟩
  · rintro b o hb e
    obtain ⟨_, cs, hg⟩ := own_blk h.cn hb
    exact own_not h.ac hg (by decide) (hob _ e)
  · rintro b o hb e
    obtain ⟨_, cs, hg⟩ := own_blk h.la hb
    exact own_not h.ac hg (by decide) (hob _ e)
theorem RefM.appended {w' : World} {v' : Value} {a : Int × Int} (h : RefM B w r refs cnt last az fl) (ho : w'.ownsRow B 96 2 v' (az.length + 1) (az.flatMap actC ++ actC a))
    (hc : (∃ A c, Value.slice r.aA az.length r.ac = .slice A az.length c ∧ v' = .slice A (az.length + 1) c ∧ w.grownBy w' (Value.slice r.aA az.length r.ac).ownBlock) ∨ (w.grownBy w' none ∧ ∀ g, v'.ownBlock = some g → w.heap.size ≤ g)) :
    RefM B w' r refs cnt last az fl ∧ Exc (fun q _ => blkOf r.aA = some q) w w' ∧ ∃ A c, v' = .slice A (az.length + 1) c ∧ ∀ q, blkOf A = some q → blkOf r.aA = some q ∨ w.heap.size ≤ q := by
  obtain ⟨A, c, rfl⟩ := slice_of_own ho
  rcases hc with ⟨A2, c2, e1, e2, hg⟩ | ⟨hg, hn⟩
  · injection e1 with e3 _ e4
    injection e2 with e5 _ e6
    subst e3 e4 e5 e6
    have hx : Exc (fun q _ => blkOf r.aA = some q) w w' := Exc.of_grown hg (fun q o e _ => by rw [ownBlock_eq] at e; exact e)
    have hp := own_prefix ho
    have hl := az_len az
    rw [List.take_append_of_le_length (by omega), List.take_of_length_le (by omega)] at hp
    exact ⟨h.turnA hx hp, hx, _, _, rfl, fun q hq => .inl hq⟩
  · have hx : Ext w w' := by
      exact ⟨hg.os, hg.tape, hg.output, hg.size, fun k hk => hg.block k hk (by simp)⟩
    exact ⟨h.ext hx, Exc.of_ext hx, _, _, rfl, fun q hq => .inr (hn q (by rw [ownBlock_eq]; exact hq))⟩
theorem rcount_any (h : RefM B w r refs cnt last az fl) (h6 : cnt.length ≤ 65536) (n : Int) :
    Calls Try.prog 53 #[.pointer (some ⟨r.p, 0, none⟩), .int .i64 n] w fun e w' => e = .returned (.int .i64 (cntAt cnt n)) ∧ w = w' := by
  have c1 : w.cell? ⟨r.p, 1, none⟩ = some (.slice r.cA cnt.length r.cc) := h.c 1
  by_cases hn : 1 ≤ n ∧ n ≤ cnt.length
  · obtain ⟨k, rfl⟩ : ∃ k : Nat, n = (k : Int) + 1 := ⟨(n - 1).toNat, by omega⟩
    have hk : k < cnt.length := by omega
    obtain ⟨g, hg, hc1, _, d1, _⟩ := h.cn.at hk
    have hst : cntAt cnt ((k : Int) + 1) = cnt.getD k 0 := by
      unfold cntAt
      rw [if_pos hn, show ((k : Int) + 1 - 1).toNat = k by omega]
    rw [hst]
    rw [hg] at c1
    obtain ⟨c, hc⟩ : ∃ c, cnt.getD k 0 = c := ⟨_, rfl⟩
    rw [hc] at d1 ⊢
    clear hg hc hst hn h
    go_enter Try.func53, Try.ntmps53
    go_wp2
    go_ret
    exact ⟨rfl, rfl⟩
  · have hst : cntAt cnt n = 0 := if_neg hn
    rw [hst]
    by_cases h1 : n < 1
    · go_enter Try.func53, Try.ntmps53
      go_wp2
      go_ret
      exact ⟨rfl, rfl⟩
    · have h2 : (cnt.length : Int) < n := by omega
      clear hn
      go_enter Try.func53, Try.ntmps53
      go_wp2
      go_ret
      exact ⟨rfl, rfl⟩
theorem rstate_any (h : RefM B w r refs cnt last az fl) (hl : last.length = cnt.length) (h6 : cnt.length ≤ 65536) (hpos : ∀ c ∈ cnt, 0 ≤ c) (n : Int) :
    Calls Try.prog 54 #[.pointer (some ⟨r.p, 0, none⟩), .int .i64 n] w fun e w' => e = .returned (.int .i64 (stAt cnt last n)) ∧ w = w' := by
  have c1 : w.cell? ⟨r.p, 1, none⟩ = some (.slice r.cA cnt.length r.cc) := h.c 1
  have c2 : w.cell? ⟨r.p, 2, none⟩ = some (.slice r.lA last.length r.lc) := h.c 2
  by_cases hn : 1 ≤ n ∧ n ≤ cnt.length
  · obtain ⟨k, rfl⟩ : ∃ k : Nat, n = (k : Int) + 1 := ⟨(n - 1).toNat, by omega⟩
    have hk : k < cnt.length := by omega
    obtain ⟨g, hg, hc1, _, d1, _⟩ := h.cn.at hk
    obtain ⟨u, hu, hc2, _, d2, _⟩ := h.la.at (i := k) (by omega)
    have hst : stAt cnt last ((k : Int) + 1) = stOf (cnt.getD k 0) (last.getD k false) := by
      unfold stAt
      rw [if_pos hn, show ((k : Int) + 1 - 1).toNat = k by omega]
    have hp : 0 ≤ cnt.getD k 0 := by
      have := hpos cnt[k] (List.getElem_mem hk)
      simpa [List.getD_eq_getElem?_getD, List.getElem?_eq_getElem hk] using this
    rw [hst]
    obtain ⟨c, hc⟩ : ∃ c, cnt.getD k 0 = c := ⟨_, rfl⟩
    obtain ⟨l, hl'⟩ : ∃ l, last.getD k false = l := ⟨_, rfl⟩
    rw [hc] at d1 hp ⊢
    rw [hl'] at d2 ⊢
    rw [hg] at c1
    rw [hu] at c2
    have hkl : k < last.length := by omega
    clear hg hu hc hl' hst hn h hl hpos
    by_cases h0 : 0 < c <;> cases l
    all_goals
      go_enter Try.func54, Try.ntmps54
      go_wp2
      go_ret
      refine ⟨?_, rfl⟩
      simp [stOf, h0]
  · have hst : stAt cnt last n = 0 := if_neg hn
    rw [hst]
    by_cases h1 : n < 1
    · go_enter Try.func54, Try.ntmps54
      go_wp2
      go_ret
      exact ⟨rfl, rfl⟩
    · have h2 : (cnt.length : Int) < n := by omega
      clear hn
      go_enter Try.func54, Try.ntmps54
      go_wp2
      go_ret
      exact ⟨rfl, rfl⟩
theorem rlen_any (h : RefM B w r refs cnt last az fl) :
    Calls Try.prog 43 #[.pointer (some ⟨r.p, 0, none⟩)] w fun e w' => e = .returned (.int .i64 cnt.length) ∧ w = w' := by
  have c1 : w.cell? ⟨r.p, 1, none⟩ = some (.slice r.cA cnt.length r.cc) := h.c 1
  go_enter Try.func43, Try.ntmps43
  go_wp2
  go_ret
  exact ⟨rfl, rfl⟩
theorem rrefs_any (h : RefM B w r refs cnt last az fl) :
    Calls Try.prog 44 #[.pointer (some ⟨r.p, 0, none⟩)] w fun e w' => e = .returned (.int .i64 refs) ∧ w = w' := by
  have c1 : w.cell? ⟨r.p, 0, none⟩ = some (.int .i64 refs) := h.c 0
  go_enter Try.func44, Try.ntmps44
  go_wp2
  go_ret
  exact ⟨rfl, rfl⟩
theorem rmark_any (h : RefM B w r refs cnt last az fl) :
    Calls Try.prog 45 #[.pointer (some ⟨r.p, 0, none⟩)] w fun e w' => e = .returned (.int .i64 az.length) ∧ w = w' := by
  have c1 : w.cell? ⟨r.p, 3, none⟩ = some (.slice r.aA az.length r.ac) := h.c 3
  go_enter Try.func45, Try.ntmps45
  go_wp2
  go_ret
  exact ⟨rfl, rfl⟩
theorem infoRA : (Try.prog.info? 96).map (fun i => (i.zero, i.size, i.bytes)) = some (some (.agg #[.int .i64 0, .int .i64 0]), 2, 16) := by kernel_rfl
theorem actC_one (a : Int × Int) : ∀ u ∈ actC a, u.oneCell' = true := by
  intro u hu
  simp only [actC, List.mem_cons, List.not_mem_nil, or_false] at hu
  rcases hu with rfl | rfl <;> rfl
theorem news_act (W : World) (n : Nat) (hn : W.heap.size = n) (a : Int × Int) (t : TypeId) : ∀ (j : Nat) u, (actC a)[j]? = some u → (W.alloc (.cells #[.int .i64 a.1, .int .i64 a.2] t)).cell? ((⟨n, 0, none⟩ : Addr).add j) = some u := by
  intro j u hj
  have h := heap_alloc_new W (Obj.cells #[.int .i64 a.1, .int .i64 a.2] t)
  rw [hn] at h
  rw [Addr.add_lit, cell_of_row _ _ _ _ _ _ h, Nat.zero_add]
  simpa using hj
set_option maxRecDepth 100000 in
set_option maxHeartbeats 1000000 in
theorem rturn_any (h : RefM B w r refs cnt last az fl) (h6 : cnt.length ≤ 65536) {k : Nat} (hk : k < cnt.length) {b : Int} (hb : -1 ≤ b ∧ b ≤ 1)
    (hc : -1 ≤ cnt.getD k 0 ∧ cnt.getD k 0 ≤ 65536) (hBw : B ≤ w.heap.size) (ha : az.length ≤ 1000000) :
    Calls Try.prog 67 #[.pointer (some ⟨r.p, 0, none⟩), .int .i64 ((k : Int) + 1), .int .i64 b] w fun e w' => ∃ A' c', e = .returned (.tuple #[]) ∧
      RefM B w' { r with aA := A', ac := c' } refs (bump cnt ((k : Int) + 1) b) last (az ++ [((k : Int) + 1, b)]) fl ∧ RMoved r { r with aA := A', ac := c' } w w' := by
  obtain ⟨iA, hiA, hzA, hsA, hbA⟩ := info_split infoRA
  have eb : bump cnt ((k : Int) + 1) b = cnt.set k (cnt.getD k 0 + b) := by
    unfold bump
    rw [show ((k : Int) + 1 - 1).toNat = k by omega]
  rw [eb]
  obtain ⟨cn', hcn'⟩ : ∃ l, cnt.set k (cnt.getD k 0 + b) = l := ⟨_, rfl⟩
  rw [hcn']
  have hl' : cn'.length = cnt.length := by rw [← hcn', List.length_set]
  obtain ⟨g, hg, hcc, hBg, d1, f1⟩ := h.cn.at hk
  have hC : RefM B (w.setCell ⟨g, k, none⟩ (.int .i64 (cnt.getD k 0 + b))) r refs cn' last az fl ∧ Exc (fun q _ => r.foot q) w (w.setCell ⟨g, k, none⟩ (.int .i64 (cnt.getD k 0 + b))) := by
    have hx := setCell_excp w g k (.int .i64 (cnt.getD k 0 + b))
    have hgb : ∀ q, blkOf r.cA = some q ↔ q = g := fun q => by rw [hg]; exact ⟨fun e => by injection e with e; exact e.symm, fun e => by rw [e]; rfl⟩
    refine ⟨h.turnC ⟨hx.os, hx.tape, hx.output, hx.size, fun q o ho hn => hx.block q o ho (fun e => hn ((hgb q).2 e))⟩ ?_ hl', ⟨hx.os, hx.tape, hx.output, hx.size, fun q o ho hn => hx.block q o ho (fun e => hn (.inr (.inl ((hgb q).2 e))))⟩⟩
    have hh := h.cn
    rw [hg] at hh ⊢
    rw [← hcn']
    exact hh.store hk _
  obtain ⟨c, hcv⟩ : ∃ c, cnt.getD k 0 = c := ⟨_, rfl⟩
  rw [hcv] at hC hc d1
  have c1 : w.cell? ⟨r.p, 1, none⟩ = some (.slice (some ⟨g, 0, none⟩) cnt.length r.cc) := by rw [← hg]; exact h.c 1
  obtain ⟨h1, hx1⟩ := hC
  have c3 : (w.setCell ⟨g, k, none⟩ (.int .i64 (c + b))).cell? ⟨r.p, 3, none⟩ = some (.slice r.aA az.length r.ac) := h1.c 3
  have hs1 := hx1.size
  clear hcn' eb hcv hg h
  go_enter Try.func67, Try.ntmps67
  have hsz : (w.setCell ⟨g, k, none⟩ (.int .i64 (c + b))).heap.size = w.heap.size := by simp [World.setCell]
  go_wp2_with (at_builtin; refine wpList_append_apart rfl _ _ 87 rfl B 96 iA _ 2 16 Try.underlying87 hiA hzA hsA hbA rfl (by decide) _ az.length _ rfl (h1.ext (ext_alloc _ _)).ac ⟨w.heap.size, 0, none⟩ 1 1 (actC ((k : Int) + 1, b)) rfl rfl (news_act _ _ hsz _ _) (actC_one _) (by decide) (by unfold maxLen; omega) (by omega) (by simp; omega) ?_; intro v' w3 ho3 hc3; obtain ⟨h3, hx3, A3, c3', rfl, hf3⟩ := (h1.ext (ext_alloc _ _)).appended ho3 hc3; have q3 : w3.cell? ⟨r.p, 3, none⟩ = some (.slice r.aA az.length r.ac) := h3.c 3; have q4 := h3.f 3)
  have h4 : RefM B (w3.setCell ⟨r.p, 3, none⟩ (.slice A3 (az.length + 1) c3')) { r with aA := A3, ac := c3' } refs cn' last (az ++ [((k : Int) + 1, b)]) fl := by
    refine h3.turnP (setCell_excp _ _ _ _) ?_ ?_
    · rw [heap_setCell_same w3 r.p 3 _ _ _ h3.hd, List.length_append]
      rfl
    · rw [List.length_append, List.flatMap_append]
      simpa using ho3
  have hx4 : Exc (fun q _ => r.foot q) w (w3.setCell ⟨r.p, 3, none⟩ (.slice A3 (az.length + 1) c3')) := by
    refine ((hx1.trans (Exc.of_ext (ext_alloc _ _))).trans ⟨hx3.os, hx3.tape, hx3.output, hx3.size, fun q o ho hn => hx3.block q o ho (fun e => hn (.inr (.inr (.inr e))))⟩).trans ?_
    have hx := setCell_excp w3 r.p 3 (.slice A3 (az.length + 1) c3')
    exact ⟨hx.os, hx.tape, hx.output, hx.size, fun q o ho hn => hx.block q o ho (fun e => hn (.inl e))⟩
  clear h1 hx1 ho3 hc3 h3 hx3 q3 q4 c1 c3 d1 f1
  go_wp2
  go_end0
  refine ⟨A3, c3', rfl, h4, rfl, hx4, ?_⟩
  rintro q (hq | hq | hq | hq)
  · exact .inl (.inl hq)
  · exact .inl (.inr (.inl hq))
  · exact .inl (.inr (.inr (.inl hq)))
  · rcases hf3 q hq with e | e
    · exact .inl (.inr (.inr (.inr e)))
    · refine .inr ?_
      simp at e
      omega
end
end Go.Proofs.Ytaalhicdeibodaa
