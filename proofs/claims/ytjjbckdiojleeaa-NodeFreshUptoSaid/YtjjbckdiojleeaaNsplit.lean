/- Contracts of node.Split and Lend. No condition but that what comes in lies in memory. -/
import Derived.Test.YtjjbckdiojleeaaNpart
namespace Go.Proofs.Ytjjbckdiojleeaa
set_option linter.unusedVariables false
open Go.RowKit Go.Proofs
def splitB (p : Pg) : Option (Pg × Pg × List UInt8) := if meantB p.kind = true ∧ p.items.length = 8 then partB p p p.items 4 else none
set_option maxHeartbeats 1000000 in
theorem nsplit_any {v : Value} {p : Pg} {w : World} (hv : PgV w v p) :
    Calls Try.prog 22 #[v] w fun e w' => ∃ v1 v2 A' c', e = .returned (.tuple #[v1, v2, .slice A' (part3 (splitB p)).length c', .bool (splitB p).isSome]) ∧
      PgO w.heap.size w' v1 (part1 (splitB p)) ∧ PgO w.heap.size w' v2 (part2 (splitB p)) ∧ Own 5 w.heap.size w' A' c' (part3 (splitB p)) ∧ Ext w w' := by
  obtain ⟨iA, ic, dA, dc, rfl, hi, hd⟩ := hv.ex
  have hil := hi.len
  have hEE := ((ext_alloc w (.cells #[.int .i64 p.kind, .int .i64 p.level, .slice iA p.items.length ic, .slice dA p.data.length dc, .int .i64 p.next] 26)).trans (ext_alloc _ (.cells #[.int .i64 0, .int .i64 0, .slice none 0 0, .slice none 0 0, .int .i64 0] 26))).trans (ext_alloc _ (.cells #[.int .i64 0, .int .i64 0, .slice none 0 0, .slice none 0 0, .int .i64 0] 26))
  have k0 := (ext_alloc _ (.cells #[.int .i64 0, .int .i64 0, .slice none 0 0, .slice none 0 0, .int .i64 0] 26)).blk (heap_alloc2_old w (.cells #[.int .i64 p.kind, .int .i64 p.level, .slice iA p.items.length ic, .slice dA p.data.length dc, .int .i64 p.next] 26) (.cells #[.int .i64 0, .int .i64 0, .slice none 0 0, .slice none 0 0, .int .i64 0] 26))
  have k1 := (ext_alloc _ (.cells #[.int .i64 0, .int .i64 0, .slice none 0 0, .slice none 0 0, .int .i64 0] 26)).blk (heap_alloc2_new w (.cells #[.int .i64 p.kind, .int .i64 p.level, .slice iA p.items.length ic, .slice dA p.data.length dc, .int .i64 p.next] 26) (.cells #[.int .i64 0, .int .i64 0, .slice none 0 0, .slice none 0 0, .int .i64 0] 26))
  have k2 := heap_alloc_at ((w.alloc (.cells #[.int .i64 p.kind, .int .i64 p.level, .slice iA p.items.length ic, .slice dA p.data.length dc, .int .i64 p.next] 26)).alloc (.cells #[.int .i64 0, .int .i64 0, .slice none 0 0, .slice none 0 0, .int .i64 0] 26)) (.cells #[.int .i64 0, .int .i64 0, .slice none 0 0, .slice none 0 0, .int .i64 0] 26) (w.heap.size + 1 + 1) (by simp)
  have K0 := Lib.hid k0
  have K1 := Lib.hid k1
  have K2 := Lib.hid k2
  have hvw := hv.ext hEE
  clear k0 k1 k2
  go_enter Try.func22, Try.ntmps22
  go_wp2_with fail
  refine (meant_any hvw).mono ?_
  rintro e w1 ⟨rfl, hE1⟩
  have b0 := hE1.blk K0.out
  have b1 := hE1.blk K1.out
  have b2 := hE1.blk K2.out
  have hE := hEE.trans hE1
  have p0 := cell_of_row w1 w.heap.size 0 _ _ _ b0
  have p1 := cell_of_row w1 w.heap.size 1 _ _ _ b0
  have p2 := cell_of_row w1 w.heap.size 2 _ _ _ b0
  have p3 := cell_of_row w1 w.heap.size 3 _ _ _ b0
  have p4 := cell_of_row w1 w.heap.size 4 _ _ _ b0
  simp at p0 p1 p2 p3 p4
  clear b0
  by_cases hok : meantB p.kind = true ∧ p.items.length = 8
  rotate_left
  · have HQ := Lib.hid (show splitB p = none by unfold splitB; rw [if_neg hok])
    have hcs : meantB p.kind = false ∨ (meantB p.kind = true ∧ ((p.items.length : Int) != 8) = true) := by
      cases hz : meantB p.kind
      · exact .inl rfl
      · right
        refine ⟨rfl, ?_⟩
        have : ¬ p.items.length = 8 := fun h => hok ⟨hz, h⟩
        rw [bne_iff_ne]; omega
    clear hok
    rcases hcs with h1 | ⟨h1, h2⟩
    all_goals
      rw [h1]
      clear h1
      go_wp2_with (first | (refine wpList_store_box rfl 26 (.tmp 2) _ rfl (w.heap.size + 1) _ rfl rfl 26 _ b1 (by kernel_rfl) rfl (by simp [Value.oneCell']) (fun w6 hb hg => ?_); have b2' := blk_other b2 hg (by omega); have hE6 := ext_only hE hg (by omega); clear b2) | (refine wpList_store_box rfl 26 (.tmp 3) _ rfl (w.heap.size + 1 + 1) _ rfl rfl 26 _ b2' (by kernel_rfl) rfl (by simp [Value.oneCell']) (fun w7 hb' hg' => ?_)))
      refine bodyPost_ret (results_rrtt rfl _ _ _ _ _ _ _ _ _ _ _ _ rfl (blk_other hb hg' (by omega)) Try.underlying26 rfl (by kernel_rfl) rfl hb' Try.underlying26 rfl (by kernel_rfl)) rfl ⟨_, _, none, 0, by rw [HQ.out]; rfl, by rw [HQ.out]; exact PgO.zero _ _, ?_, ?_, ext_only hE6 hg' (by omega)⟩
      · rw [HQ.out]; exact PgO.zero _ _
      · rw [HQ.out]; exact ⟨rfl, .inl ⟨rfl, rfl⟩⟩
  have HQ := Lib.hid (show splitB p = partB p p p.items 4 by unfold splitB; rw [if_pos hok])
  obtain ⟨h1, h2⟩ := hok
  rw [h1]
  have h3 : ((p.items.length : Int) != 8) = false := by simp [h2]
  have H2 := Lib.hid h2
  clear h1 h2
  go_wp2_with fail
  refine (parted_any (n := 4) (hv.ext hE) (hv.ext hE) (hi.ext hE) rfl (by omega) (by have := H2.out; omega)).mono ?_
  rintro e w2 ⟨v1, v2, A5, c5, rfl, o1, o2, os, hE2⟩
  obtain ⟨i1, j1, d1, e1, ps1, rfl, _⟩ := o1.ex
  obtain ⟨i2, j2, d2, e2, ps2, rfl, _⟩ := o2.ex
  have O1 := Lib.hid o1
  have O2 := Lib.hid o2
  have OS := Lib.hid os
  have b1' := hE2.blk b1
  have b2' := hE2.blk b2
  have hE' := hE.trans hE2
  have hw1 : w.heap.size + 3 ≤ w1.heap.size := (Array.getElem?_eq_some_iff.1 b2).1
  clear o1 o2 os b1 b2 h3
  generalize hz : (partB p p p.items 4) = z at *
  have HZ := Lib.hid hz
  clear hz
  go_wp2_with (first | (refine wpList_store_box rfl 26 (.tmp 2) _ rfl (w.heap.size + 1) _ rfl rfl 26 _ b1' (by kernel_rfl) rfl (by simp [Value.oneCell']) (fun w6 hb hg => ?_); have b3' := blk_other b2' hg (by omega); have hE6 := ext_only hE' hg (by omega); clear b2') | (refine wpList_store_box rfl 26 (.tmp 3) _ rfl (w.heap.size + 1 + 1) _ rfl rfl 26 _ b3' (by kernel_rfl) rfl (by simp [Value.oneCell']) (fun w7 hb' hg' => ?_)))
  refine bodyPost_ret (results_rrtt rfl _ _ _ _ _ _ _ _ _ _ _ _ rfl (blk_other hb hg' (by omega)) Try.underlying26 rfl (by kernel_rfl) rfl hb' Try.underlying26 rfl (by kernel_rfl)) rfl ⟨_, _, A5, c5, by rw [HQ.out]; rfl, ?_, ?_, ?_, ext_only hE6 hg' (by omega)⟩
  · rw [HQ.out]; exact ((O1.out.only hg (by omega)).only hg' (by omega)).mono (by omega)
  · rw [HQ.out]; exact ((O2.out.only hg (by omega)).only hg' (by omega)).mono (by omega)
  · rw [HQ.out]; exact ((OS.out.only hg (by omega)).only hg' (by omega)).mono (by omega)
/-- What parted answers. -/
def PartIn (C : Nat) (o : Option (Pg × Pg × List UInt8)) (v : Value) (w : World) : Prop := ∃ v1 v2 A c n z, v = .tuple #[v1, v2, .slice A n c, .bool z] ∧ Hid (n = (part3 o).length) ∧ Hid (z = o.isSome) ∧ PgO C w v1 (part1 o) ∧ PgO C w v2 (part2 o) ∧ Own 5 C w A c (part3 o)
theorem PartIn.lasts {D : Nat → Obj → Prop} {C : Nat} (hd : ∀ k o, D k o → k < C) (o : Option (Pg × Pg × List UInt8)) (v : Value) : Lasts (Exc D) (PartIn C o v) := fun w w' ⟨v1, v2, A, c, n, z, h1, h2, h3, h4, h5, h6⟩ hx =>
  ⟨v1, v2, A, c, n, z, h1, h2, h3, hx.pgo4 h4 hd, hx.pgo4 h5 hd, ownsRow_exc h6 hx (fun k cs h e => by have := hd _ _ e; omega)⟩
def lendOk (l r : Pg) (toR : Bool) : Bool := neighB l r && (match toR with
  | true => decide (2 ≤ l.items.length ∧ 1 ≤ r.items.length ∧ r.items.length < 8)
  | false => decide (2 ≤ r.items.length ∧ 1 ≤ l.items.length ∧ l.items.length < 8))
def lendN (l : Pg) (toR : Bool) : Nat := match toR with | true => l.items.length - 1 | false => l.items.length + 1
def lendB (l r : Pg) (sep : List UInt8) (toR : Bool) : Option (Pg × Pg × List UInt8) := if lendOk l r toR = true then partB l r (rowB l r sep) (lendN l toR) else none
set_option maxRecDepth 100000 in
set_option maxHeartbeats 4000000 in
theorem nlend_any {v u : Value} {p q : Pg} {A : Option Addr} {c n : Nat} {sep : List UInt8} {toR : Bool} {w : World} (hv : PgV w v p) (hu : PgV w u q) (hs : Sl w A c sep) (hn : n = sep.length) (ht0 : lendOk p q toR = true → p.items.length + q.items.length ≤ 2199023255552) :
    Calls Try.prog 31 #[v, u, .slice A n c, .bool toR] w fun e w' => ∃ v1 v2 A' c', e = .returned (.tuple #[v1, v2, .slice A' (part3 (lendB p q sep toR)).length c', .bool (lendB p q sep toR).isSome]) ∧
      PgO w.heap.size w' v1 (part1 (lendB p q sep toR)) ∧ PgO w.heap.size w' v2 (part2 (lendB p q sep toR)) ∧ Own 5 w.heap.size w' A' c' (part3 (lendB p q sep toR)) ∧ Ext w w' := by
  subst hn
  obtain ⟨iA, ic, dA, dc, rfl, hi, hd⟩ := hv.ex
  obtain ⟨jA, jc, cA, cc, rfl, hj, hcd⟩ := hu.ex
  have hil := hi.len
  have hjl := hj.len
  go_enter Try.func31, Try.ntmps31
  go_wp2
  refine wp_cut (fun W => Ext w W ∧ W.heap[w.heap.size]? = some (.cells #[.int .i64 p.kind, .int .i64 p.level, .slice iA p.items.length ic, .slice dA p.data.length dc, .int .i64 p.next] 26) ∧ W.heap[w.heap.size + 1]? = some (.cells #[.int .i64 q.kind, .int .i64 q.level, .slice jA q.items.length jc, .slice cA q.data.length cc, .int .i64 q.next] 26) ∧ W.heap[w.heap.size + 1 + 1]? = some (.cells #[.int .i64 0, .int .i64 0, .slice none 0 0, .slice none 0 0, .int .i64 0] 26) ∧ W.heap[w.heap.size + 1 + 1 + 1]? = some (.cells #[.int .i64 0, .int .i64 0, .slice none 0 0, .slice none 0 0, .int .i64 0] 26)) ⟨((ext_alloc _ _).trans (ext_alloc _ _)).trans ((ext_alloc _ _).trans (ext_alloc _ _)), (ext_alloc _ _).blk ((ext_alloc _ _).blk (heap_alloc2_old _ _ _)), (ext_alloc _ _).blk ((ext_alloc _ _).blk (heap_alloc2_new _ _ _)), (ext_alloc _ _).blk (heap_alloc_at _ _ _ (by simp)), heap_alloc_at _ _ _ (by simp)⟩ ?_
  rintro w1 ⟨hE, hb0, hb1, hb2, hb3⟩
  have HB0 := Lib.hid hb0
  have HB1 := Lib.hid hb1
  have HB2 := Lib.hid hb2
  have HB3 := Lib.hid hb3
  clear hb0 hb1 hb2 hb3
  have ea0 : ∀ w', Ext w1 w' → w'.cell? ⟨w.heap.size, 0, none⟩ = some (.int .i64 p.kind) := fun w' h => cell_of_row _ _ _ _ _ _ (h.blk HB0.out)
  have ea1 : ∀ w', Ext w1 w' → w'.cell? ⟨w.heap.size, 1, none⟩ = some (.int .i64 p.level) := fun w' h => cell_of_row _ _ _ _ _ _ (h.blk HB0.out)
  have ea2 : ∀ w', Ext w1 w' → w'.cell? ⟨w.heap.size, 2, none⟩ = some (.slice iA p.items.length ic) := fun w' h => cell_of_row _ _ _ _ _ _ (h.blk HB0.out)
  have ea3 : ∀ w', Ext w1 w' → w'.cell? ⟨w.heap.size, 3, none⟩ = some (.slice dA p.data.length dc) := fun w' h => cell_of_row _ _ _ _ _ _ (h.blk HB0.out)
  have ea4 : ∀ w', Ext w1 w' → w'.cell? ⟨w.heap.size, 4, none⟩ = some (.int .i64 p.next) := fun w' h => cell_of_row _ _ _ _ _ _ (h.blk HB0.out)
  have eb0 : ∀ w', Ext w1 w' → w'.cell? ⟨w.heap.size + 1, 0, none⟩ = some (.int .i64 q.kind) := fun w' h => cell_of_row _ _ _ _ _ _ (h.blk HB1.out)
  have eb1 : ∀ w', Ext w1 w' → w'.cell? ⟨w.heap.size + 1, 1, none⟩ = some (.int .i64 q.level) := fun w' h => cell_of_row _ _ _ _ _ _ (h.blk HB1.out)
  have eb2 : ∀ w', Ext w1 w' → w'.cell? ⟨w.heap.size + 1, 2, none⟩ = some (.slice jA q.items.length jc) := fun w' h => cell_of_row _ _ _ _ _ _ (h.blk HB1.out)
  have eb3 : ∀ w', Ext w1 w' → w'.cell? ⟨w.heap.size + 1, 3, none⟩ = some (.slice cA q.data.length cc) := fun w' h => cell_of_row _ _ _ _ _ _ (h.blk HB1.out)
  have eb4 : ∀ w', Ext w1 w' → w'.cell? ⟨w.heap.size + 1, 4, none⟩ = some (.int .i64 q.next) := fun w' h => cell_of_row _ _ _ _ _ _ (h.blk HB1.out)
  refine wp_region_rg Ext rel_ext (fun _ => True) [0, 1, 2, 3, 4, 5, 6, 7] (fun _ => none) (fun _ => none) (fun _ => false) (by kernel_rfl) (by kernel_rfl) (fun _ _ _ _ => trivial) trivial (fun W N hW _ hN => ?_)
  have hEW : Ext w1 W := hW
  repeat (first | (apply wpR_one; (case ho => (simp only [List.getElem?_toArray, List.getElem?_cons_succ, List.getElem?_cons_zero]; try exact rfl)); (case hw => rfl); (case hl => rfl); (case hsp => rfl); (case he => rfl); (case hv => (intro w' hw'; (try (have hw2 := Ext.trans hEW hw')); (try (have hw3 := Exc.trans hEW hw')); (try (have hw4 := Exk.trans hEW hw')); (try (have hw5 := Mrk.trans hEW hw')); go_simp; exact rfl)); (case hw0 => (first | exact Below.refl _ _ | exact Exc.of_ext (Below.refl _ _) | exact Exk.of_ext (Below.refl _ _) | exact Mrk.of_ext (Below.refl _ _))); simp only [Act.put, List.setIfInBounds_toArray, List.set_cons_succ, List.set_cons_zero]) | (apply wpR_early; (case ho => (simp only [List.getElem?_toArray, List.getElem?_cons_succ, List.getElem?_cons_zero]; try exact rfl)); (case hw => rfl); (case hl => rfl); (case hsp => rfl); (case he => rfl); (case hv => (intro w' hw'; (try have hw2 := Ext.trans hEW hw'); go_simp; exact rfl)); simp only [Act.put, List.setIfInBounds_toArray, List.set_cons_succ, List.set_cons_zero]) | (apply wpR_pass; (case ho => (simp only [List.getElem?_toArray, List.getElem?_cons_succ, List.getElem?_cons_zero]; try exact rfl)); (case hw => rfl); (case hl => rfl); simp only [Act.put, List.setIfInBounds_toArray, List.set_cons_succ, List.set_cons_zero]))
  apply wpR_nil
  apply hN
  intro w2 hE' hK _
  have hE2 := hEW.trans hE'
  clear hK hN hEW hE' hW
  cases toR
  all_goals
    go_wp2_with fail
    refine (neighbours_any (hv.ext (hE.trans hE2)) (hu.ext (hE.trans hE2))).mono ?_
    rintro e w3 ⟨rfl, hE3⟩
    have hE4 := hE2.trans hE3
    have hEw := hE.trans hE4
    have b2 := hE4.blk HB2.out
    have b3 := hE4.blk HB3.out
    clear hE2 hE3
  · by_cases hok : lendOk p q false = true
    rotate_left
    · have HQ := Lib.hid (show lendB p q sep false = none by unfold lendB; rw [if_neg hok])
      have hcs : neighB p q = false ∨ (neighB p q = true ∧ (q.items.length : Int) < 2) ∨ (neighB p q = true ∧ (2 : Int) ≤ q.items.length ∧ (p.items.length : Int) < 1) ∨ (neighB p q = true ∧ (2 : Int) ≤ q.items.length ∧ (1 : Int) ≤ p.items.length ∧ (8 : Int) ≤ p.items.length) := by
        cases hz : neighB p q
        · exact .inl rfl
        · right
          have h0 : ¬ (2 ≤ q.items.length ∧ 1 ≤ p.items.length ∧ p.items.length < 8) := fun h => hok (by simp [lendOk, hz, h])
          have h1 : (q.items.length : Int) < 2 ∨ ((2 : Int) ≤ q.items.length ∧ (p.items.length : Int) < 1) ∨ ((2 : Int) ≤ q.items.length ∧ (1 : Int) ≤ p.items.length ∧ (8 : Int) ≤ p.items.length) := by omega
          rcases h1 with h | h | h
          · exact .inl ⟨rfl, h⟩
          · exact .inr (.inl ⟨rfl, h⟩)
          · exact .inr (.inr ⟨rfl, h⟩)
      clear hok ea0 ea1 ea2 ea3 ea4 eb0 eb1 eb2 eb3 eb4
      rcases hcs with h1 | ⟨h1, h2⟩ | ⟨h1, h2, h3⟩ | ⟨h1, h2, h3, h4⟩
      all_goals
        rw [h1]
        clear h1
        go_wp2_with (first | (refine wpList_store_box rfl 26 (.tmp 8) _ rfl (w.heap.size + 1 + 1) _ rfl rfl 26 _ b2 (by kernel_rfl) rfl (by simp [Value.oneCell']) (fun w6 hb hg => ?_); have b3' := blk_other b3 hg (by omega); have hE6 := ext_only hEw hg (by omega); clear b3) | (refine wpList_store_box rfl 26 (.tmp 9) _ rfl (w.heap.size + 1 + 1 + 1) _ rfl rfl 26 _ b3' (by kernel_rfl) rfl (by simp [Value.oneCell']) (fun w7 hb' hg' => ?_)))
        refine bodyPost_ret (results_rrtt rfl _ _ _ _ _ _ _ _ _ _ _ _ rfl (blk_other hb hg' (by omega)) Try.underlying26 rfl (by kernel_rfl) rfl hb' Try.underlying26 rfl (by kernel_rfl)) rfl ⟨_, _, none, 0, by rw [HQ.out]; rfl, by rw [HQ.out]; exact PgO.zero _ _, ?_, ?_, ext_only hE6 hg' (by omega)⟩
        · rw [HQ.out]; exact PgO.zero _ _
        · rw [HQ.out]; exact ⟨rfl, .inl ⟨rfl, rfl⟩⟩
    have HQ := Lib.hid (show lendB p q sep false = partB p q (rowB p q sep) (p.items.length + 1) by unfold lendB; rw [if_pos hok]; rfl)
    have ht := ht0 hok
    clear ht0
    have hz : neighB p q = true := by
      cases h : neighB p q
      · simp [lendOk, h] at hok
      · rfl
    have hcc : 2 ≤ q.items.length ∧ 1 ≤ p.items.length ∧ p.items.length < 8 := by
      simp only [lendOk, hz, Bool.true_and, decide_eq_true_eq] at hok
      exact hok
    obtain ⟨h2, h3, h4⟩ := hcc
    rw [hz]
    clear hz hok
    have i1 : (2 : Int) ≤ q.items.length := by omega
    have i2 : (1 : Int) ≤ p.items.length := by omega
    have i3 : (p.items.length : Int) < 8 := by omega
    have hsz := (Array.getElem?_eq_some_iff.1 b3).1
    go_wp2
    have HB0' := Lib.hid (hE4.blk HB0.out)
    have HB1' := Lib.hid (hE4.blk HB1.out)
    clear ea0 ea1 ea2 ea3 ea4 eb0 eb1 eb2 eb3 eb4
    generalize hz : lendB p q sep false = z at *
    have HZ := Lib.hid hz
    clear hz
    refine wp_region_rg (Exc (fun k _ => k = w.heap.size + 1 + 1 ∨ k = w.heap.size + 1 + 1 + 1)) (rel_exc _) (fun w' => w'.heap[w.heap.size + 1 + 1]? = some (.cells #[.int .i64 0, .int .i64 0, .slice none 0 0, .slice none 0 0, .int .i64 0] 26) ∧ w'.heap[w.heap.size + 1 + 1 + 1]? = some (.cells #[.int .i64 0, .int .i64 0, .slice none 0 0, .slice none 0 0, .int .i64 0] 26)) [0, 1, 2, 3, 4, 5, 6, 7, 8, 9, 10, 11, 12, 13, 14, 15, 16, 17] (fun i => match i with
      | 5 => some fun _ => ItsOf w3.heap.size (p.items.length + q.items.length) (rowB p q sep)
      | 9 => some fun _ => PartIn w3.heap.size z
      | _ => none) (fun i => match i with
      | 14 => some fun V _ w' => StoredIn (w.heap.size + 1 + 1) (V 10) w' ∧ w'.heap[w.heap.size + 1 + 1 + 1]? = some (.cells #[.int .i64 0, .int .i64 0, .slice none 0 0, .slice none 0 0, .int .i64 0] 26)
      | 15 => some fun V _ w' => StoredIn (w.heap.size + 1 + 1) (V 10) w' ∧ StoredIn (w.heap.size + 1 + 1 + 1) (V 11) w'
      | _ => none) (fun _ => false) (by kernel_rfl) (by kernel_rfl) (fun _ _ h he => ⟨he.blk h.1, he.blk h.2⟩) ⟨b2, b3⟩ (fun W N hW hF0 hN => ?_)
    have hEW : Exc (fun k _ => k = w.heap.size + 1 + 1 ∨ k = w.heap.size + 1 + 1 + 1) w3 W := Exc.of_ext hW
    have hX : ∀ w', Exc (fun k _ => k = w.heap.size + 1 + 1 ∨ k = w.heap.size + 1 + 1 + 1) W w' → Ext w w' := fun w' h => (Exc.trans hEW h).to_ext hEw (fun k _ hk => by omega)
    have hD : ∀ (k : Nat) (o : Obj), (k = w.heap.size + 1 + 1 ∨ k = w.heap.size + 1 + 1 + 1) → k < w3.heap.size := fun k _ hk => by omega
    have ea0 : ∀ w', Exc (fun k _ => k = w.heap.size + 1 + 1 ∨ k = w.heap.size + 1 + 1 + 1) w3 w' → w'.cell? ⟨w.heap.size, 0, none⟩ = some (.int .i64 p.kind) := fun w' h => cell_of_row _ _ _ _ _ _ (h.blk HB0'.out (by omega))
    have ea1 : ∀ w', Exc (fun k _ => k = w.heap.size + 1 + 1 ∨ k = w.heap.size + 1 + 1 + 1) w3 w' → w'.cell? ⟨w.heap.size, 1, none⟩ = some (.int .i64 p.level) := fun w' h => cell_of_row _ _ _ _ _ _ (h.blk HB0'.out (by omega))
    have ea2 : ∀ w', Exc (fun k _ => k = w.heap.size + 1 + 1 ∨ k = w.heap.size + 1 + 1 + 1) w3 w' → w'.cell? ⟨w.heap.size, 2, none⟩ = some (.slice iA p.items.length ic) := fun w' h => cell_of_row _ _ _ _ _ _ (h.blk HB0'.out (by omega))
    have ea3 : ∀ w', Exc (fun k _ => k = w.heap.size + 1 + 1 ∨ k = w.heap.size + 1 + 1 + 1) w3 w' → w'.cell? ⟨w.heap.size, 3, none⟩ = some (.slice dA p.data.length dc) := fun w' h => cell_of_row _ _ _ _ _ _ (h.blk HB0'.out (by omega))
    have ea4 : ∀ w', Exc (fun k _ => k = w.heap.size + 1 + 1 ∨ k = w.heap.size + 1 + 1 + 1) w3 w' → w'.cell? ⟨w.heap.size, 4, none⟩ = some (.int .i64 p.next) := fun w' h => cell_of_row _ _ _ _ _ _ (h.blk HB0'.out (by omega))
    have eb0 : ∀ w', Exc (fun k _ => k = w.heap.size + 1 + 1 ∨ k = w.heap.size + 1 + 1 + 1) w3 w' → w'.cell? ⟨w.heap.size + 1, 0, none⟩ = some (.int .i64 q.kind) := fun w' h => cell_of_row _ _ _ _ _ _ (h.blk HB1'.out (by omega))
    have eb1 : ∀ w', Exc (fun k _ => k = w.heap.size + 1 + 1 ∨ k = w.heap.size + 1 + 1 + 1) w3 w' → w'.cell? ⟨w.heap.size + 1, 1, none⟩ = some (.int .i64 q.level) := fun w' h => cell_of_row _ _ _ _ _ _ (h.blk HB1'.out (by omega))
    have eb2 : ∀ w', Exc (fun k _ => k = w.heap.size + 1 + 1 ∨ k = w.heap.size + 1 + 1 + 1) w3 w' → w'.cell? ⟨w.heap.size + 1, 2, none⟩ = some (.slice jA q.items.length jc) := fun w' h => cell_of_row _ _ _ _ _ _ (h.blk HB1'.out (by omega))
    have eb3 : ∀ w', Exc (fun k _ => k = w.heap.size + 1 + 1 ∨ k = w.heap.size + 1 + 1 + 1) w3 w' → w'.cell? ⟨w.heap.size + 1, 3, none⟩ = some (.slice cA q.data.length cc) := fun w' h => cell_of_row _ _ _ _ _ _ (h.blk HB1'.out (by omega))
    have eb4 : ∀ w', Exc (fun k _ => k = w.heap.size + 1 + 1 ∨ k = w.heap.size + 1 + 1 + 1) w3 w' → w'.cell? ⟨w.heap.size + 1, 4, none⟩ = some (.int .i64 q.next) := fun w' h => cell_of_row _ _ _ _ _ _ (h.blk HB1'.out (by omega))
    have iw : IntKind.i64.wrap ((p.items.length : Int) + 1) = ((p.items.length + 1 : Nat) : Int) := by rw [IntWalk.i64_in _ (by omega)]; omega
    repeat (first | (apply wpR_one; (case ho => (simp only [List.getElem?_toArray, List.getElem?_cons_succ, List.getElem?_cons_zero]; try exact rfl)); (case hw => rfl); (case hl => rfl); (case hsp => rfl); (case he => rfl); (case hv => (intro w' hw'; (try (have hw2 := Ext.trans hEW hw')); (try (have hw3 := Exc.trans hEW hw')); (try (have hw4 := Exk.trans hEW hw')); (try (have hw5 := Mrk.trans hEW hw')); go_simp; exact rfl)); (case hw0 => (first | exact Below.refl _ _ | exact Exc.of_ext (Below.refl _ _) | exact Exk.of_ext (Below.refl _ _) | exact Mrk.of_ext (Below.refl _ _))); simp only [Act.put, List.setIfInBounds_toArray, List.set_cons_succ, List.set_cons_zero]) | (apply wpR_early; (case ho => (simp only [List.getElem?_toArray, List.getElem?_cons_succ, List.getElem?_cons_zero]; try exact rfl)); (case hw => rfl); (case hl => rfl); (case hsp => rfl); (case he => rfl); (case hv => (intro w' hw'; (try have hw2 := Ext.trans hEW hw'); go_simp; exact rfl)); simp only [Act.put, List.setIfInBounds_toArray, List.set_cons_succ, List.set_cons_zero]) | (apply wpR_pass; (case ho => (simp only [List.getElem?_toArray, List.getElem?_cons_succ, List.getElem?_cons_zero]; try exact rfl)); (case hw => rfl); (case hl => rfl); simp only [Act.put, List.setIfInBounds_toArray, List.set_cons_succ, List.set_cons_zero]))
    refine wpR_new (by ((simp only [List.getElem?_toArray, List.getElem?_cons_succ, List.getElem?_cons_zero]; try exact rfl))) _ rfl rfl rfl (fun V v => ItsOf.lasts hD _ _ _) (fun V V' h => rfl) (fun w' hw' hK => ?_) (fun v hv => ?_)
    · have HX := Lib.hid (hX w' hw')
      clear hK
      unfold opAt; go_simp; refine upAt_enter ?_
      refine (row_any (hv.ext HX.out) (hu.ext HX.out) (hs.ext HX.out) rfl (by omega) ht).mono ?_
      rintro e w2 ⟨A5, c5, ps5, rfl, ho, hE2⟩
      exact ⟨_, rfl, hE2, _, _, _, rfl, ho.mono (hEW.trans hw').size⟩
    obtain ⟨A5, c5, rfl⟩ : ∃ A c, v = .slice A (p.items.length + q.items.length) c := by
      obtain ⟨_, _, _, A, c, _, h, _⟩ := hv
      exact ⟨A, c, h⟩
    clear hv
    simp only [Act.put, List.setIfInBounds_toArray, List.set_cons_succ, List.set_cons_zero]
    repeat (first | (apply wpR_one; (case ho => (simp only [List.getElem?_toArray, List.getElem?_cons_succ, List.getElem?_cons_zero]; try exact rfl)); (case hw => rfl); (case hl => rfl); (case hsp => rfl); (case he => rfl); (case hv => (intro w' hw'; (try (have hw2 := Ext.trans hEW hw')); (try (have hw3 := Exc.trans hEW hw')); (try (have hw4 := Exk.trans hEW hw')); (try (have hw5 := Mrk.trans hEW hw')); go_simp; exact rfl)); (case hw0 => (first | exact Below.refl _ _ | exact Exc.of_ext (Below.refl _ _) | exact Exk.of_ext (Below.refl _ _) | exact Mrk.of_ext (Below.refl _ _))); simp only [Act.put, List.setIfInBounds_toArray, List.set_cons_succ, List.set_cons_zero]) | (apply wpR_early; (case ho => (simp only [List.getElem?_toArray, List.getElem?_cons_succ, List.getElem?_cons_zero]; try exact rfl)); (case hw => rfl); (case hl => rfl); (case hsp => rfl); (case he => rfl); (case hv => (intro w' hw'; (try have hw2 := Ext.trans hEW hw'); go_simp; exact rfl)); simp only [Act.put, List.setIfInBounds_toArray, List.set_cons_succ, List.set_cons_zero]) | (apply wpR_pass; (case ho => (simp only [List.getElem?_toArray, List.getElem?_cons_succ, List.getElem?_cons_zero]; try exact rfl)); (case hw => rfl); (case hl => rfl); simp only [Act.put, List.setIfInBounds_toArray, List.set_cons_succ, List.set_cons_zero]))
    refine wpR_new (by ((simp only [List.getElem?_toArray, List.getElem?_cons_succ, List.getElem?_cons_zero]; try exact rfl))) _ rfl rfl rfl (fun V v => PartIn.lasts hD _ _) (fun V V' h => rfl) (fun w' hw' hK => ?_) (fun v hv => ?_)
    · have HK5 := Lib.hid (hK 5 (by kernel_rfl)).2
      have HX := Lib.hid (hX w' hw')
      clear hK iw
      unfold opAt; go_simp; refine upAt_enter ?_
      rw [show ((p.items.length : Int) + 1) = ((p.items.length + 1 : Nat) : Int) from by omega]
      obtain ⟨A6, c6, ps6, e6, ho6⟩ := HK5.out
      have e6' : Value.slice A5 (p.items.length + q.items.length) c5 = .slice A6 (p.items.length + q.items.length) c6 := e6
      injection e6' with e61 _ e62
      subst e61 e62
      have hlen := rowB_length p q sep
      refine (parted_any (n := p.items.length + 1) (hv.ext HX.out) (hu.ext HX.out) (ho6.its (by omega) (rowB_small hv.small hu.small hs.len)) hlen.symm (by omega) (by omega)).mono ?_
      rintro e w2 ⟨v1, v2, A7, c7, rfl, o1, o2, os, hE2⟩
      rw [← HQ.out] at o1 o2 os
      exact ⟨_, rfl, hE2, v1, v2, A7, c7, _, _, rfl, by rw [HQ.out]; exact Lib.hid rfl, by rw [HQ.out]; exact Lib.hid rfl, o1.mono (hEW.trans hw').size, o2.mono (hEW.trans hw').size, os.mono (hEW.trans hw').size⟩
    obtain ⟨j1, k1, l1, m1, n1, j2, k2, l2, m2, n2, A7, c7, n7, z7, HN7, HZ7, rfl⟩ : ∃ j1 k1 l1 m1 n1 j2 k2 l2 m2 n2 A c n z', Hid (n = (part3 z).length) ∧ Hid (z' = z.isSome) ∧ v = .tuple #[.agg #[.int .i64 (part1 z).kind, .int .i64 (part1 z).level, .slice j1 n1 k1, .slice l1 (part1 z).data.length m1, .int .i64 (part1 z).next], .agg #[.int .i64 (part2 z).kind, .int .i64 (part2 z).level, .slice j2 n2 k2, .slice l2 (part2 z).data.length m2, .int .i64 (part2 z).next], .slice A n c, .bool z'] := by
      obtain ⟨_, _, _, v1, v2, A, c, nn, zz, h, h1, h2, o1, o2, _⟩ := hv
      obtain ⟨_, _, _, _, _, rfl, _⟩ := o1.ex
      obtain ⟨_, _, _, _, _, rfl, _⟩ := o2.ex
      exact ⟨_, _, _, _, _, _, _, _, _, _, _, _, _, _, h1, h2, h⟩
    clear hv
    simp only [Act.put, List.setIfInBounds_toArray, List.set_cons_succ, List.set_cons_zero]
    repeat (first | (apply wpR_one; (case ho => (simp only [List.getElem?_toArray, List.getElem?_cons_succ, List.getElem?_cons_zero]; try exact rfl)); (case hw => rfl); (case hl => rfl); (case hsp => rfl); (case he => rfl); (case hv => (intro w' hw'; (try (have hw2 := Ext.trans hEW hw')); (try (have hw3 := Exc.trans hEW hw')); (try (have hw4 := Exk.trans hEW hw')); (try (have hw5 := Mrk.trans hEW hw')); go_simp; exact rfl)); (case hw0 => (first | exact Below.refl _ _ | exact Exc.of_ext (Below.refl _ _) | exact Exk.of_ext (Below.refl _ _) | exact Mrk.of_ext (Below.refl _ _))); simp only [Act.put, List.setIfInBounds_toArray, List.set_cons_succ, List.set_cons_zero]) | (apply wpR_early; (case ho => (simp only [List.getElem?_toArray, List.getElem?_cons_succ, List.getElem?_cons_zero]; try exact rfl)); (case hw => rfl); (case hl => rfl); (case hsp => rfl); (case he => rfl); (case hv => (intro w' hw'; (try have hw2 := Ext.trans hEW hw'); go_simp; exact rfl)); simp only [Act.put, List.setIfInBounds_toArray, List.set_cons_succ, List.set_cons_zero]) | (apply wpR_pass; (case ho => (simp only [List.getElem?_toArray, List.getElem?_cons_succ, List.getElem?_cons_zero]; try exact rfl)); (case hw => rfl); (case hl => rfl); simp only [Act.put, List.setIfInBounds_toArray, List.set_cons_succ, List.set_cons_zero]))
    refine wpR_late (by ((simp only [List.getElem?_toArray, List.getElem?_cons_succ, List.getElem?_cons_zero]; try exact rfl))) _ rfl rfl (fun V v w' w2 h he => ⟨h.1.ext he, he.blk h.2⟩) (fun V V' h => by simp only [h 10 (by kernel_rfl)]) (fun w' hw' hK hF => ?_) (fun v hv => ?_)
    · refine opAt_list rfl #[] (fun Q hQ => ?_)
      refine wpList_store_box rfl 26 _ _ rfl (w.heap.size + 1 + 1) _ rfl rfl 26 _ hF.1 (by kernel_rfl) rfl (by simp [Value.oneCell']) (fun w2 hb hg => ?_)
      exact hQ _ _ ⟨Exc.of_only hg (fun _ _ => .inl rfl), ⟨_, rfl, hb⟩, blk_other hF.2 hg (by omega)⟩
    clear hv
    simp only [Act.put, List.setIfInBounds_toArray, List.set_cons_succ, List.set_cons_zero]
    refine wpR_late (by ((simp only [List.getElem?_toArray, List.getElem?_cons_succ, List.getElem?_cons_zero]; try exact rfl))) _ rfl rfl (fun V v w' w2 h he => ⟨h.1.ext he, h.2.ext he⟩) (fun V V' h => by simp only [h 10 (by kernel_rfl), h 11 (by kernel_rfl)]) (fun w' hw' hK hF => ?_) (fun v hv => ?_)
    · obtain ⟨⟨cs, hc1, hc2⟩, hz2⟩ := hF
      refine opAt_list rfl #[] (fun Q hQ => ?_)
      refine wpList_store_box rfl 26 _ _ rfl (w.heap.size + 1 + 1 + 1) _ rfl rfl 26 _ hz2 (by kernel_rfl) rfl (by simp [Value.oneCell']) (fun w2 hb hg => ?_)
      exact hQ _ _ ⟨Exc.of_only hg (fun _ _ => .inr rfl), ⟨cs, hc1, blk_other hc2 hg (by omega)⟩, ⟨_, rfl, hb⟩⟩
    clear hv
    simp only [Act.put, List.setIfInBounds_toArray, List.set_cons_succ, List.set_cons_zero]
    repeat (first | (apply wpR_one; (case ho => (simp only [List.getElem?_toArray, List.getElem?_cons_succ, List.getElem?_cons_zero]; try exact rfl)); (case hw => rfl); (case hl => rfl); (case hsp => rfl); (case he => rfl); (case hv => (intro w' hw'; (try (have hw2 := Ext.trans hEW hw')); (try (have hw3 := Exc.trans hEW hw')); (try (have hw4 := Exk.trans hEW hw')); (try (have hw5 := Mrk.trans hEW hw')); go_simp; exact rfl)); (case hw0 => (first | exact Below.refl _ _ | exact Exc.of_ext (Below.refl _ _) | exact Exk.of_ext (Below.refl _ _) | exact Mrk.of_ext (Below.refl _ _))); simp only [Act.put, List.setIfInBounds_toArray, List.set_cons_succ, List.set_cons_zero]) | (apply wpR_early; (case ho => (simp only [List.getElem?_toArray, List.getElem?_cons_succ, List.getElem?_cons_zero]; try exact rfl)); (case hw => rfl); (case hl => rfl); (case hsp => rfl); (case he => rfl); (case hv => (intro w' hw'; (try have hw2 := Ext.trans hEW hw'); go_simp; exact rfl)); simp only [Act.put, List.setIfInBounds_toArray, List.set_cons_succ, List.set_cons_zero]) | (apply wpR_pass; (case ho => (simp only [List.getElem?_toArray, List.getElem?_cons_succ, List.getElem?_cons_zero]; try exact rfl)); (case hw => rfl); (case hl => rfl); simp only [Act.put, List.setIfInBounds_toArray, List.set_cons_succ, List.set_cons_zero]))
    clear iw
    apply wpR_nil
    apply hN
    intro w9 hE9 hK hF
    have hk := (hK 9).2
    obtain ⟨⟨cs1, hc1, r1⟩, ⟨cs2, hc2, r2⟩⟩ := hF
    have hE' := hX w9 hE9
    have hf : ∃ v1 v2, v1 = .agg cs1 ∧ v2 = .agg cs2 ∧ PgO w3.heap.size w9 v1 (part1 z) ∧ PgO w3.heap.size w9 v2 (part2 z) ∧ Own 5 w3.heap.size w9 A7 c7 (part3 z) := by
      obtain ⟨v1, v2, A8, c8, n8, z8, e8, _, _, o1, o2, os⟩ := hk
      have e8' : Value.tuple #[.agg #[.int .i64 (part1 z).kind, .int .i64 (part1 z).level, .slice j1 n1 k1, .slice l1 (part1 z).data.length m1, .int .i64 (part1 z).next], .agg #[.int .i64 (part2 z).kind, .int .i64 (part2 z).level, .slice j2 n2 k2, .slice l2 (part2 z).data.length m2, .int .i64 (part2 z).next], .slice A7 n7 c7, .bool z7] = .tuple #[v1, v2, .slice A8 n8 c8, .bool z8] := e8
      simp only [Value.tuple.injEq, Array.mk.injEq, List.cons.injEq, Value.slice.injEq] at e8'
      obtain ⟨rfl, rfl, ⟨rfl, _, rfl⟩, _⟩ := e8'
      exact ⟨_, _, hc1, hc2, o1, o2, os⟩
    obtain ⟨v1, v2, rfl, rfl, o1, o2, os⟩ := hf
    have hcw : w.heap.size ≤ w3.heap.size := by omega
    have R1 := Lib.hid (o1.mono hcw)
    have R2 := Lib.hid (o2.mono hcw)
    have R3 := Lib.hid (os.mono hcw)
    clear hK hN hk hc1 hc2 o1 o2 os ea0 ea1 ea2 ea3 ea4 eb0 eb1 eb2 eb3 eb4 hEW hE9 hX hD hW hF0
    have hs1 : cs1.size = 5 := by obtain ⟨_, _, _, _, _, e, _⟩ := R1.out.ex; injection e with e; rw [e]; rfl
    have hs2 : cs2.size = 5 := by obtain ⟨_, _, _, _, _, e, _⟩ := R2.out.ex; injection e with e; rw [e]; rfl
    have HS1 := Lib.hid hs1
    have HS2 := Lib.hid hs2
    clear hs1 hs2
    go_wp2
    refine bodyPost_ret (results_rrtt rfl _ _ _ _ _ _ _ _ _ _ _ _ rfl r1 Try.underlying26 rfl (by rw [HS1.out]; kernel_rfl) rfl r2 Try.underlying26 rfl (by rw [HS2.out]; kernel_rfl)) rfl ⟨_, _, A7, c7, by rw [HZ.out, ← HN7.out, ← HZ7.out]; rfl, by rw [HZ.out]; exact R1.out, by rw [HZ.out]; exact R2.out, by rw [HZ.out]; exact R3.out, hE'⟩
  · by_cases hok : lendOk p q true = true
    rotate_left
    · have HQ := Lib.hid (show lendB p q sep true = none by unfold lendB; rw [if_neg hok])
      have hcs : neighB p q = false ∨ (neighB p q = true ∧ (p.items.length : Int) < 2) ∨ (neighB p q = true ∧ (2 : Int) ≤ p.items.length ∧ (q.items.length : Int) < 1) ∨ (neighB p q = true ∧ (2 : Int) ≤ p.items.length ∧ (1 : Int) ≤ q.items.length ∧ (8 : Int) ≤ q.items.length) := by
        cases hz : neighB p q
        · exact .inl rfl
        · right
          have h0 : ¬ (2 ≤ p.items.length ∧ 1 ≤ q.items.length ∧ q.items.length < 8) := fun h => hok (by simp [lendOk, hz, h])
          have h1 : (p.items.length : Int) < 2 ∨ ((2 : Int) ≤ p.items.length ∧ (q.items.length : Int) < 1) ∨ ((2 : Int) ≤ p.items.length ∧ (1 : Int) ≤ q.items.length ∧ (8 : Int) ≤ q.items.length) := by omega
          rcases h1 with h | h | h
          · exact .inl ⟨rfl, h⟩
          · exact .inr (.inl ⟨rfl, h⟩)
          · exact .inr (.inr ⟨rfl, h⟩)
      clear hok ea0 ea1 ea2 ea3 ea4 eb0 eb1 eb2 eb3 eb4
      rcases hcs with h1 | ⟨h1, h2⟩ | ⟨h1, h2, h3⟩ | ⟨h1, h2, h3, h4⟩
      all_goals
        rw [h1]
        clear h1
        go_wp2_with (first | (refine wpList_store_box rfl 26 (.tmp 8) _ rfl (w.heap.size + 1 + 1) _ rfl rfl 26 _ b2 (by kernel_rfl) rfl (by simp [Value.oneCell']) (fun w6 hb hg => ?_); have b3' := blk_other b3 hg (by omega); have hE6 := ext_only hEw hg (by omega); clear b3) | (refine wpList_store_box rfl 26 (.tmp 9) _ rfl (w.heap.size + 1 + 1 + 1) _ rfl rfl 26 _ b3' (by kernel_rfl) rfl (by simp [Value.oneCell']) (fun w7 hb' hg' => ?_)))
        refine bodyPost_ret (results_rrtt rfl _ _ _ _ _ _ _ _ _ _ _ _ rfl (blk_other hb hg' (by omega)) Try.underlying26 rfl (by kernel_rfl) rfl hb' Try.underlying26 rfl (by kernel_rfl)) rfl ⟨_, _, none, 0, by rw [HQ.out]; rfl, by rw [HQ.out]; exact PgO.zero _ _, ?_, ?_, ext_only hE6 hg' (by omega)⟩
        · rw [HQ.out]; exact PgO.zero _ _
        · rw [HQ.out]; exact ⟨rfl, .inl ⟨rfl, rfl⟩⟩
    have HQ := Lib.hid (show lendB p q sep true = partB p q (rowB p q sep) (p.items.length - 1) by unfold lendB; rw [if_pos hok]; rfl)
    have ht := ht0 hok
    clear ht0
    have hz : neighB p q = true := by
      cases h : neighB p q
      · simp [lendOk, h] at hok
      · rfl
    have hcc : 2 ≤ p.items.length ∧ 1 ≤ q.items.length ∧ q.items.length < 8 := by
      simp only [lendOk, hz, Bool.true_and, decide_eq_true_eq] at hok
      exact hok
    obtain ⟨h2, h3, h4⟩ := hcc
    rw [hz]
    clear hz hok
    have i1 : (2 : Int) ≤ p.items.length := by omega
    have i2 : (1 : Int) ≤ q.items.length := by omega
    have i3 : (q.items.length : Int) < 8 := by omega
    have hsz := (Array.getElem?_eq_some_iff.1 b3).1
    go_wp2
    have HB0' := Lib.hid (hE4.blk HB0.out)
    have HB1' := Lib.hid (hE4.blk HB1.out)
    clear ea0 ea1 ea2 ea3 ea4 eb0 eb1 eb2 eb3 eb4
    generalize hz : lendB p q sep true = z at *
    have HZ := Lib.hid hz
    clear hz
    refine wp_region_rg (Exc (fun k _ => k = w.heap.size + 1 + 1 ∨ k = w.heap.size + 1 + 1 + 1)) (rel_exc _) (fun w' => w'.heap[w.heap.size + 1 + 1]? = some (.cells #[.int .i64 0, .int .i64 0, .slice none 0 0, .slice none 0 0, .int .i64 0] 26) ∧ w'.heap[w.heap.size + 1 + 1 + 1]? = some (.cells #[.int .i64 0, .int .i64 0, .slice none 0 0, .slice none 0 0, .int .i64 0] 26)) [0, 1, 2, 3, 4, 5, 6, 7, 8, 9, 10, 11, 12, 13, 14, 15, 16, 17] (fun i => match i with
      | 5 => some fun _ => ItsOf w3.heap.size (p.items.length + q.items.length) (rowB p q sep)
      | 9 => some fun _ => PartIn w3.heap.size z
      | _ => none) (fun i => match i with
      | 14 => some fun V _ w' => StoredIn (w.heap.size + 1 + 1) (V 10) w' ∧ w'.heap[w.heap.size + 1 + 1 + 1]? = some (.cells #[.int .i64 0, .int .i64 0, .slice none 0 0, .slice none 0 0, .int .i64 0] 26)
      | 15 => some fun V _ w' => StoredIn (w.heap.size + 1 + 1) (V 10) w' ∧ StoredIn (w.heap.size + 1 + 1 + 1) (V 11) w'
      | _ => none) (fun _ => false) (by kernel_rfl) (by kernel_rfl) (fun _ _ h he => ⟨he.blk h.1, he.blk h.2⟩) ⟨b2, b3⟩ (fun W N hW hF0 hN => ?_)
    have hEW : Exc (fun k _ => k = w.heap.size + 1 + 1 ∨ k = w.heap.size + 1 + 1 + 1) w3 W := Exc.of_ext hW
    have hX : ∀ w', Exc (fun k _ => k = w.heap.size + 1 + 1 ∨ k = w.heap.size + 1 + 1 + 1) W w' → Ext w w' := fun w' h => (Exc.trans hEW h).to_ext hEw (fun k _ hk => by omega)
    have hD : ∀ (k : Nat) (o : Obj), (k = w.heap.size + 1 + 1 ∨ k = w.heap.size + 1 + 1 + 1) → k < w3.heap.size := fun k _ hk => by omega
    have ea0 : ∀ w', Exc (fun k _ => k = w.heap.size + 1 + 1 ∨ k = w.heap.size + 1 + 1 + 1) w3 w' → w'.cell? ⟨w.heap.size, 0, none⟩ = some (.int .i64 p.kind) := fun w' h => cell_of_row _ _ _ _ _ _ (h.blk HB0'.out (by omega))
    have ea1 : ∀ w', Exc (fun k _ => k = w.heap.size + 1 + 1 ∨ k = w.heap.size + 1 + 1 + 1) w3 w' → w'.cell? ⟨w.heap.size, 1, none⟩ = some (.int .i64 p.level) := fun w' h => cell_of_row _ _ _ _ _ _ (h.blk HB0'.out (by omega))
    have ea2 : ∀ w', Exc (fun k _ => k = w.heap.size + 1 + 1 ∨ k = w.heap.size + 1 + 1 + 1) w3 w' → w'.cell? ⟨w.heap.size, 2, none⟩ = some (.slice iA p.items.length ic) := fun w' h => cell_of_row _ _ _ _ _ _ (h.blk HB0'.out (by omega))
    have ea3 : ∀ w', Exc (fun k _ => k = w.heap.size + 1 + 1 ∨ k = w.heap.size + 1 + 1 + 1) w3 w' → w'.cell? ⟨w.heap.size, 3, none⟩ = some (.slice dA p.data.length dc) := fun w' h => cell_of_row _ _ _ _ _ _ (h.blk HB0'.out (by omega))
    have ea4 : ∀ w', Exc (fun k _ => k = w.heap.size + 1 + 1 ∨ k = w.heap.size + 1 + 1 + 1) w3 w' → w'.cell? ⟨w.heap.size, 4, none⟩ = some (.int .i64 p.next) := fun w' h => cell_of_row _ _ _ _ _ _ (h.blk HB0'.out (by omega))
    have eb0 : ∀ w', Exc (fun k _ => k = w.heap.size + 1 + 1 ∨ k = w.heap.size + 1 + 1 + 1) w3 w' → w'.cell? ⟨w.heap.size + 1, 0, none⟩ = some (.int .i64 q.kind) := fun w' h => cell_of_row _ _ _ _ _ _ (h.blk HB1'.out (by omega))
    have eb1 : ∀ w', Exc (fun k _ => k = w.heap.size + 1 + 1 ∨ k = w.heap.size + 1 + 1 + 1) w3 w' → w'.cell? ⟨w.heap.size + 1, 1, none⟩ = some (.int .i64 q.level) := fun w' h => cell_of_row _ _ _ _ _ _ (h.blk HB1'.out (by omega))
    have eb2 : ∀ w', Exc (fun k _ => k = w.heap.size + 1 + 1 ∨ k = w.heap.size + 1 + 1 + 1) w3 w' → w'.cell? ⟨w.heap.size + 1, 2, none⟩ = some (.slice jA q.items.length jc) := fun w' h => cell_of_row _ _ _ _ _ _ (h.blk HB1'.out (by omega))
    have eb3 : ∀ w', Exc (fun k _ => k = w.heap.size + 1 + 1 ∨ k = w.heap.size + 1 + 1 + 1) w3 w' → w'.cell? ⟨w.heap.size + 1, 3, none⟩ = some (.slice cA q.data.length cc) := fun w' h => cell_of_row _ _ _ _ _ _ (h.blk HB1'.out (by omega))
    have eb4 : ∀ w', Exc (fun k _ => k = w.heap.size + 1 + 1 ∨ k = w.heap.size + 1 + 1 + 1) w3 w' → w'.cell? ⟨w.heap.size + 1, 4, none⟩ = some (.int .i64 q.next) := fun w' h => cell_of_row _ _ _ _ _ _ (h.blk HB1'.out (by omega))
    have iw : IntKind.i64.wrap ((p.items.length : Int) + (-1)) = ((p.items.length - 1 : Nat) : Int) := by rw [IntWalk.i64_in _ (by omega)]; omega
    repeat (first | (apply wpR_one; (case ho => (simp only [List.getElem?_toArray, List.getElem?_cons_succ, List.getElem?_cons_zero]; try exact rfl)); (case hw => rfl); (case hl => rfl); (case hsp => rfl); (case he => rfl); (case hv => (intro w' hw'; (try (have hw2 := Ext.trans hEW hw')); (try (have hw3 := Exc.trans hEW hw')); (try (have hw4 := Exk.trans hEW hw')); (try (have hw5 := Mrk.trans hEW hw')); go_simp; exact rfl)); (case hw0 => (first | exact Below.refl _ _ | exact Exc.of_ext (Below.refl _ _) | exact Exk.of_ext (Below.refl _ _) | exact Mrk.of_ext (Below.refl _ _))); simp only [Act.put, List.setIfInBounds_toArray, List.set_cons_succ, List.set_cons_zero]) | (apply wpR_early; (case ho => (simp only [List.getElem?_toArray, List.getElem?_cons_succ, List.getElem?_cons_zero]; try exact rfl)); (case hw => rfl); (case hl => rfl); (case hsp => rfl); (case he => rfl); (case hv => (intro w' hw'; (try have hw2 := Ext.trans hEW hw'); go_simp; exact rfl)); simp only [Act.put, List.setIfInBounds_toArray, List.set_cons_succ, List.set_cons_zero]) | (apply wpR_pass; (case ho => (simp only [List.getElem?_toArray, List.getElem?_cons_succ, List.getElem?_cons_zero]; try exact rfl)); (case hw => rfl); (case hl => rfl); simp only [Act.put, List.setIfInBounds_toArray, List.set_cons_succ, List.set_cons_zero]))
    refine wpR_new (by ((simp only [List.getElem?_toArray, List.getElem?_cons_succ, List.getElem?_cons_zero]; try exact rfl))) _ rfl rfl rfl (fun V v => ItsOf.lasts hD _ _ _) (fun V V' h => rfl) (fun w' hw' hK => ?_) (fun v hv => ?_)
    · have HX := Lib.hid (hX w' hw')
      clear hK
      unfold opAt; go_simp; refine upAt_enter ?_
      refine (row_any (hv.ext HX.out) (hu.ext HX.out) (hs.ext HX.out) rfl (by omega) ht).mono ?_
      rintro e w2 ⟨A5, c5, ps5, rfl, ho, hE2⟩
      exact ⟨_, rfl, hE2, _, _, _, rfl, ho.mono (hEW.trans hw').size⟩
    obtain ⟨A5, c5, rfl⟩ : ∃ A c, v = .slice A (p.items.length + q.items.length) c := by
      obtain ⟨_, _, _, A, c, _, h, _⟩ := hv
      exact ⟨A, c, h⟩
    clear hv
    simp only [Act.put, List.setIfInBounds_toArray, List.set_cons_succ, List.set_cons_zero]
    repeat (first | (apply wpR_one; (case ho => (simp only [List.getElem?_toArray, List.getElem?_cons_succ, List.getElem?_cons_zero]; try exact rfl)); (case hw => rfl); (case hl => rfl); (case hsp => rfl); (case he => rfl); (case hv => (intro w' hw'; (try (have hw2 := Ext.trans hEW hw')); (try (have hw3 := Exc.trans hEW hw')); (try (have hw4 := Exk.trans hEW hw')); (try (have hw5 := Mrk.trans hEW hw')); go_simp; exact rfl)); (case hw0 => (first | exact Below.refl _ _ | exact Exc.of_ext (Below.refl _ _) | exact Exk.of_ext (Below.refl _ _) | exact Mrk.of_ext (Below.refl _ _))); simp only [Act.put, List.setIfInBounds_toArray, List.set_cons_succ, List.set_cons_zero]) | (apply wpR_early; (case ho => (simp only [List.getElem?_toArray, List.getElem?_cons_succ, List.getElem?_cons_zero]; try exact rfl)); (case hw => rfl); (case hl => rfl); (case hsp => rfl); (case he => rfl); (case hv => (intro w' hw'; (try have hw2 := Ext.trans hEW hw'); go_simp; exact rfl)); simp only [Act.put, List.setIfInBounds_toArray, List.set_cons_succ, List.set_cons_zero]) | (apply wpR_pass; (case ho => (simp only [List.getElem?_toArray, List.getElem?_cons_succ, List.getElem?_cons_zero]; try exact rfl)); (case hw => rfl); (case hl => rfl); simp only [Act.put, List.setIfInBounds_toArray, List.set_cons_succ, List.set_cons_zero]))
    refine wpR_new (by ((simp only [List.getElem?_toArray, List.getElem?_cons_succ, List.getElem?_cons_zero]; try exact rfl))) _ rfl rfl rfl (fun V v => PartIn.lasts hD _ _) (fun V V' h => rfl) (fun w' hw' hK => ?_) (fun v hv => ?_)
    · have HK5 := Lib.hid (hK 5 (by kernel_rfl)).2
      have HX := Lib.hid (hX w' hw')
      clear hK iw
      unfold opAt; go_simp; refine upAt_enter ?_
      obtain ⟨A6, c6, ps6, e6, ho6⟩ := HK5.out
      have e6' : Value.slice A5 (p.items.length + q.items.length) c5 = .slice A6 (p.items.length + q.items.length) c6 := e6
      injection e6' with e61 _ e62
      subst e61 e62
      have hlen := rowB_length p q sep
      refine (parted_any (n := p.items.length - 1) (hv.ext HX.out) (hu.ext HX.out) (ho6.its (by omega) (rowB_small hv.small hu.small hs.len)) hlen.symm (by omega) (by omega)).mono ?_
      rintro e w2 ⟨v1, v2, A7, c7, rfl, o1, o2, os, hE2⟩
      rw [← HQ.out] at o1 o2 os
      exact ⟨_, rfl, hE2, v1, v2, A7, c7, _, _, rfl, by rw [HQ.out]; exact Lib.hid rfl, by rw [HQ.out]; exact Lib.hid rfl, o1.mono (hEW.trans hw').size, o2.mono (hEW.trans hw').size, os.mono (hEW.trans hw').size⟩
    obtain ⟨j1, k1, l1, m1, n1, j2, k2, l2, m2, n2, A7, c7, n7, z7, HN7, HZ7, rfl⟩ : ∃ j1 k1 l1 m1 n1 j2 k2 l2 m2 n2 A c n z', Hid (n = (part3 z).length) ∧ Hid (z' = z.isSome) ∧ v = .tuple #[.agg #[.int .i64 (part1 z).kind, .int .i64 (part1 z).level, .slice j1 n1 k1, .slice l1 (part1 z).data.length m1, .int .i64 (part1 z).next], .agg #[.int .i64 (part2 z).kind, .int .i64 (part2 z).level, .slice j2 n2 k2, .slice l2 (part2 z).data.length m2, .int .i64 (part2 z).next], .slice A n c, .bool z'] := by
      obtain ⟨_, _, _, v1, v2, A, c, nn, zz, h, h1, h2, o1, o2, _⟩ := hv
      obtain ⟨_, _, _, _, _, rfl, _⟩ := o1.ex
      obtain ⟨_, _, _, _, _, rfl, _⟩ := o2.ex
      exact ⟨_, _, _, _, _, _, _, _, _, _, _, _, _, _, h1, h2, h⟩
    clear hv
    simp only [Act.put, List.setIfInBounds_toArray, List.set_cons_succ, List.set_cons_zero]
    repeat (first | (apply wpR_one; (case ho => (simp only [List.getElem?_toArray, List.getElem?_cons_succ, List.getElem?_cons_zero]; try exact rfl)); (case hw => rfl); (case hl => rfl); (case hsp => rfl); (case he => rfl); (case hv => (intro w' hw'; (try (have hw2 := Ext.trans hEW hw')); (try (have hw3 := Exc.trans hEW hw')); (try (have hw4 := Exk.trans hEW hw')); (try (have hw5 := Mrk.trans hEW hw')); go_simp; exact rfl)); (case hw0 => (first | exact Below.refl _ _ | exact Exc.of_ext (Below.refl _ _) | exact Exk.of_ext (Below.refl _ _) | exact Mrk.of_ext (Below.refl _ _))); simp only [Act.put, List.setIfInBounds_toArray, List.set_cons_succ, List.set_cons_zero]) | (apply wpR_early; (case ho => (simp only [List.getElem?_toArray, List.getElem?_cons_succ, List.getElem?_cons_zero]; try exact rfl)); (case hw => rfl); (case hl => rfl); (case hsp => rfl); (case he => rfl); (case hv => (intro w' hw'; (try have hw2 := Ext.trans hEW hw'); go_simp; exact rfl)); simp only [Act.put, List.setIfInBounds_toArray, List.set_cons_succ, List.set_cons_zero]) | (apply wpR_pass; (case ho => (simp only [List.getElem?_toArray, List.getElem?_cons_succ, List.getElem?_cons_zero]; try exact rfl)); (case hw => rfl); (case hl => rfl); simp only [Act.put, List.setIfInBounds_toArray, List.set_cons_succ, List.set_cons_zero]))
    refine wpR_late (by ((simp only [List.getElem?_toArray, List.getElem?_cons_succ, List.getElem?_cons_zero]; try exact rfl))) _ rfl rfl (fun V v w' w2 h he => ⟨h.1.ext he, he.blk h.2⟩) (fun V V' h => by simp only [h 10 (by kernel_rfl)]) (fun w' hw' hK hF => ?_) (fun v hv => ?_)
    · refine opAt_list rfl #[] (fun Q hQ => ?_)
      refine wpList_store_box rfl 26 _ _ rfl (w.heap.size + 1 + 1) _ rfl rfl 26 _ hF.1 (by kernel_rfl) rfl (by simp [Value.oneCell']) (fun w2 hb hg => ?_)
      exact hQ _ _ ⟨Exc.of_only hg (fun _ _ => .inl rfl), ⟨_, rfl, hb⟩, blk_other hF.2 hg (by omega)⟩
    clear hv
    simp only [Act.put, List.setIfInBounds_toArray, List.set_cons_succ, List.set_cons_zero]
    refine wpR_late (by ((simp only [List.getElem?_toArray, List.getElem?_cons_succ, List.getElem?_cons_zero]; try exact rfl))) _ rfl rfl (fun V v w' w2 h he => ⟨h.1.ext he, h.2.ext he⟩) (fun V V' h => by simp only [h 10 (by kernel_rfl), h 11 (by kernel_rfl)]) (fun w' hw' hK hF => ?_) (fun v hv => ?_)
    · obtain ⟨⟨cs, hc1, hc2⟩, hz2⟩ := hF
      refine opAt_list rfl #[] (fun Q hQ => ?_)
      refine wpList_store_box rfl 26 _ _ rfl (w.heap.size + 1 + 1 + 1) _ rfl rfl 26 _ hz2 (by kernel_rfl) rfl (by simp [Value.oneCell']) (fun w2 hb hg => ?_)
      exact hQ _ _ ⟨Exc.of_only hg (fun _ _ => .inr rfl), ⟨cs, hc1, blk_other hc2 hg (by omega)⟩, ⟨_, rfl, hb⟩⟩
    clear hv
    simp only [Act.put, List.setIfInBounds_toArray, List.set_cons_succ, List.set_cons_zero]
    repeat (first | (apply wpR_one; (case ho => (simp only [List.getElem?_toArray, List.getElem?_cons_succ, List.getElem?_cons_zero]; try exact rfl)); (case hw => rfl); (case hl => rfl); (case hsp => rfl); (case he => rfl); (case hv => (intro w' hw'; (try (have hw2 := Ext.trans hEW hw')); (try (have hw3 := Exc.trans hEW hw')); (try (have hw4 := Exk.trans hEW hw')); (try (have hw5 := Mrk.trans hEW hw')); go_simp; exact rfl)); (case hw0 => (first | exact Below.refl _ _ | exact Exc.of_ext (Below.refl _ _) | exact Exk.of_ext (Below.refl _ _) | exact Mrk.of_ext (Below.refl _ _))); simp only [Act.put, List.setIfInBounds_toArray, List.set_cons_succ, List.set_cons_zero]) | (apply wpR_early; (case ho => (simp only [List.getElem?_toArray, List.getElem?_cons_succ, List.getElem?_cons_zero]; try exact rfl)); (case hw => rfl); (case hl => rfl); (case hsp => rfl); (case he => rfl); (case hv => (intro w' hw'; (try have hw2 := Ext.trans hEW hw'); go_simp; exact rfl)); simp only [Act.put, List.setIfInBounds_toArray, List.set_cons_succ, List.set_cons_zero]) | (apply wpR_pass; (case ho => (simp only [List.getElem?_toArray, List.getElem?_cons_succ, List.getElem?_cons_zero]; try exact rfl)); (case hw => rfl); (case hl => rfl); simp only [Act.put, List.setIfInBounds_toArray, List.set_cons_succ, List.set_cons_zero]))
    clear iw
    apply wpR_nil
    apply hN
    intro w9 hE9 hK hF
    have hk := (hK 9).2
    obtain ⟨⟨cs1, hc1, r1⟩, ⟨cs2, hc2, r2⟩⟩ := hF
    have hE' := hX w9 hE9
    have hf : ∃ v1 v2, v1 = .agg cs1 ∧ v2 = .agg cs2 ∧ PgO w3.heap.size w9 v1 (part1 z) ∧ PgO w3.heap.size w9 v2 (part2 z) ∧ Own 5 w3.heap.size w9 A7 c7 (part3 z) := by
      obtain ⟨v1, v2, A8, c8, n8, z8, e8, _, _, o1, o2, os⟩ := hk
      have e8' : Value.tuple #[.agg #[.int .i64 (part1 z).kind, .int .i64 (part1 z).level, .slice j1 n1 k1, .slice l1 (part1 z).data.length m1, .int .i64 (part1 z).next], .agg #[.int .i64 (part2 z).kind, .int .i64 (part2 z).level, .slice j2 n2 k2, .slice l2 (part2 z).data.length m2, .int .i64 (part2 z).next], .slice A7 n7 c7, .bool z7] = .tuple #[v1, v2, .slice A8 n8 c8, .bool z8] := e8
      simp only [Value.tuple.injEq, Array.mk.injEq, List.cons.injEq, Value.slice.injEq] at e8'
      obtain ⟨rfl, rfl, ⟨rfl, _, rfl⟩, _⟩ := e8'
      exact ⟨_, _, hc1, hc2, o1, o2, os⟩
    obtain ⟨v1, v2, rfl, rfl, o1, o2, os⟩ := hf
    have hcw : w.heap.size ≤ w3.heap.size := by omega
    have R1 := Lib.hid (o1.mono hcw)
    have R2 := Lib.hid (o2.mono hcw)
    have R3 := Lib.hid (os.mono hcw)
    clear hK hN hk hc1 hc2 o1 o2 os ea0 ea1 ea2 ea3 ea4 eb0 eb1 eb2 eb3 eb4 hEW hE9 hX hD hW hF0
    have hs1 : cs1.size = 5 := by obtain ⟨_, _, _, _, _, e, _⟩ := R1.out.ex; injection e with e; rw [e]; rfl
    have hs2 : cs2.size = 5 := by obtain ⟨_, _, _, _, _, e, _⟩ := R2.out.ex; injection e with e; rw [e]; rfl
    have HS1 := Lib.hid hs1
    have HS2 := Lib.hid hs2
    clear hs1 hs2
    go_wp2
    refine bodyPost_ret (results_rrtt rfl _ _ _ _ _ _ _ _ _ _ _ _ rfl r1 Try.underlying26 rfl (by rw [HS1.out]; kernel_rfl) rfl r2 Try.underlying26 rfl (by rw [HS2.out]; kernel_rfl)) rfl ⟨_, _, A7, c7, by rw [HZ.out, ← HN7.out, ← HZ7.out]; rfl, by rw [HZ.out]; exact R1.out, by rw [HZ.out]; exact R2.out, by rw [HZ.out]; exact R3.out, hE'⟩
end Go.Proofs.Ytjjbckdiojleeaa
