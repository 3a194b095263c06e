/- Layer 10: a pool in memory, and the calls that look at it. No condition but the sizes. -/
import Derived.Test.YtaalhicdeibodaaRhi
import Derived.Test.YtaalhicdeibodaaPq
import Derived.Laws.EntriesVeiled
namespace Go.Proofs.Ytaalhicdeibodaa
open Go.RowKit Go.Proofs Go.Shelf
set_option linter.unusedVariables false
attribute [local go_sem] Oper.semAt_some
abbrev ic (l : List Int) : List Value := l.map fun z => Value.int .i64 z
abbrev bc (l : List Bool) : List Value := l.map fun b => Value.bool b
def RowI (B : Nat) (w : World) (A : Option Addr) (c : Nat) (l : List Int) : Prop := w.ownsRow B 3 1 (.slice A l.length c) l.length (ic l)
def RowT (B : Nat) (w : World) (A : Option Addr) (c : Nat) (l : List Bool) : Prop := w.ownsRow B 4 1 (.slice A l.length c) l.length (bc l)
abbrev blkOf (A : Option Addr) : Option Nat := A.map (·.block)
theorem ownBlock_eq (A : Option Addr) (n c : Nat) : (Value.slice A n c).ownBlock = blkOf A := by cases A <;> rfl
theorem blk_ne {w : World} {a b : Nat} {x y : Array Value} {t t' : TypeId} {f f' : Nat × Nat} (h1 : w.heap[a]? = some (.cells x t f)) (h2 : w.heap[b]? = some (.cells y t' f')) (hne : t ≠ t') : a ≠ b := by
  rintro rfl
  rw [h1] at h2
  injection h2 with h2
  injection h2 with _ h2
  exact hne h2
theorem own_out {w w' : World} {D : Nat → Obj → Prop} {B n k : Nat} {e : TypeId} {v : Value} {xs : List Value} (h : w.ownsRow B e n v k xs) (hx : Exc D w w') (hb : ∀ b o, v.ownBlock = some b → ¬ D b o) : w'.ownsRow B e n v k xs := by
  refine ⟨h.1, ?_⟩
  rcases h.2 with h0 | ⟨g, cap, cur, hv, hB, hg, r⟩
  · exact .inl h0
  · exact .inr ⟨g, cap, cur, hv, hB, hx.blk hg (hb g _ (by rw [hv]; rfl)), r⟩
theorem RowI.at {B : Nat} {w : World} {A : Option Addr} {c : Nat} {l : List Int} (h : RowI B w A c l) {i : Nat} (hi : i < l.length) : ∃ g, A = some ⟨g, 0, none⟩ ∧ l.length ≤ c ∧ B ≤ g ∧ w.cell? ⟨g, i, none⟩ = some (.int .i64 (l.getD i 0)) ∧ w.frozen? ⟨g, i, none⟩ = false := by
  rcases h.2 with ⟨hv, h0⟩ | ⟨g, cap, cur, hv, hb, hg, hle, _⟩
  · omega
  · injection hv with h1 h2 h3
    subst h1 h3
    refine ⟨g, rfl, hle, hb, ?_, frozen_of_row _ _ _ _ _ hg⟩
    rw [World.ownsRow.cellAt h _ (by omega)]
    simp [List.getD_eq_getElem?_getD, List.getElem?_eq_getElem hi]
theorem RowT.at {B : Nat} {w : World} {A : Option Addr} {c : Nat} {l : List Bool} (h : RowT B w A c l) {i : Nat} (hi : i < l.length) : ∃ g, A = some ⟨g, 0, none⟩ ∧ l.length ≤ c ∧ B ≤ g ∧ w.cell? ⟨g, i, none⟩ = some (.bool (l.getD i false)) ∧ w.frozen? ⟨g, i, none⟩ = false := by
  rcases h.2 with ⟨hv, h0⟩ | ⟨g, cap, cur, hv, hb, hg, hle, _⟩
  · omega
  · injection hv with h1 h2 h3
    subst h1 h3
    refine ⟨g, rfl, hle, hb, ?_, frozen_of_row _ _ _ _ _ hg⟩
    rw [World.ownsRow.cellAt h _ (by omega)]
    simp [List.getD_eq_getElem?_getD, List.getElem?_eq_getElem hi]
theorem RowI.le {B : Nat} {w : World} {A : Option Addr} {c : Nat} {l : List Int} (h : RowI B w A c l) : l.length ≤ c ∧ (A = none → l = []) := by
  rcases h.2 with ⟨hv, h0⟩ | ⟨g, cap, cur, hv, hb, hg, hle, _⟩
  · exact ⟨by omega, fun _ => List.length_eq_zero_iff.1 h0⟩
  · injection hv with h1 h2 h3
    subst h1 h3
    exact ⟨hle, fun h => by cases h⟩
/-- Where a pool lies. -/
structure Pm where
  p : Nat
  cA : Option Addr
  cc : Nat
  lA : Option Addr
  lc : Nat
  fp : Nat
  fA : Option Addr
  fc : Nat
  aA : Option Addr
  ac : Nat
  bs : List (Nat × Nat × Nat)
abbrev actV (b : Nat × Nat × Nat) : Value := .func (.func 65) #[] #[.pointer (some ⟨b.1, 0, none⟩), .pointer (some ⟨b.2.1, 0, none⟩), .pointer (some ⟨b.2.2, 0, none⟩)]
def poolC (m : Pm) (refs : Int) (n1 n2 : Nat) (ta : List Int) (na : Nat) (fl : Int) : Array Value :=
  #[.int .i64 refs, .slice m.cA n1 m.cc, .slice m.lA n2 m.lc, .pointer (some ⟨m.fp, 0, none⟩), .int .i64 (ta.getD 0 0), .int .i64 (ta.getD 1 0), .int .i64 (ta.getD 2 0), .int .i64 (ta.getD 3 0), .int .i64 (ta.getD 4 0), .slice m.aA na m.ac, .int .i64 fl]
/-- What a closure has captured. -/
structure ActAt (w : World) (p : Nat) (a : Int × Int) (b : Nat × Nat × Nat) : Prop where
  c1 : w.heap[b.1]? = some (.cells #[.pointer (some ⟨p, 0, none⟩)] 27 (0, 0))
  c2 : w.heap[b.2.1]? = some (.cells #[.int .i64 a.1] 3 (0, 0))
  c3 : w.heap[b.2.2]? = some (.cells #[.int .i64 a.2] 3 (0, 0))
/-- A pool in memory, whatever its tallies and free pages are. -/
structure PoolM (B : Nat) (w : World) (m : Pm) (refs : Int) (cnt : List Int) (last : List Bool) (L : List Rn) (ta : List Int) (az : List (Int × Int)) (fl : Int) : Prop where
  hd : w.heap[m.p]? = some (.cells (poolC m refs cnt.length last.length ta az.length fl) 74 (0, 0))
  cn : RowI B w m.cA m.cc cnt
  la : RowT B w m.lA m.lc last
  fr : SetAti B m.fp m.fA m.fc w L
  ac : w.ownsRow B 81 1 (.slice m.aA az.length m.ac) az.length (m.bs.map actV)
  cl : ∀ (i : Nat) (a : Int × Int) (b : Nat × Nat × Nat), az[i]? = some a → m.bs[i]? = some b → ActAt w m.p a b
  sep : ∀ b ∈ m.bs, blkOf m.cA ≠ some b.2.1 ∧ blkOf m.cA ≠ some b.2.2
  geP : B ≤ m.p
  geF : B ≤ m.fp
  geB : ∀ b ∈ m.bs, B ≤ b.1 ∧ B ≤ b.2.1 ∧ B ≤ b.2.2
  tl : ta.length = 5
def Pm.foot (m : Pm) (q : Nat) : Prop := q = m.p ∨ blkOf m.cA = some q ∨ blkOf m.lA = some q ∨ q = m.fp ∨ blkOf m.fA = some q ∨ blkOf m.aA = some q ∨ ∃ b ∈ m.bs, q = b.1 ∨ q = b.2.1 ∨ q = b.2.2
section
variable {B : Nat} {w : World} {m : Pm} {refs : Int} {cnt : List Int} {last : List Bool} {L : List Rn} {ta : List Int} {az : List (Int × Int)} {fl : Int}
theorem PoolM.bl (h : PoolM B w m refs cnt last L ta az fl) : m.bs.length = az.length := by
  have := h.ac.1
  simpa using this
theorem PoolM.exc {D : Nat → Obj → Prop} {w' : World} (h : PoolM B w m refs cnt last L ta az fl) (hx : Exc D w w') (hd : ∀ q o, m.foot q → ¬ D q o) : PoolM B w' m refs cnt last L ta az fl := by
  refine ⟨hx.blk h.hd (hd _ _ (.inl rfl)), own_out h.cn hx fun b o hb => hd _ _ (.inr (.inl ?_)), own_out h.la hx fun b o hb => hd _ _ (.inr (.inr (.inl ?_))),
    ⟨hx.blk h.fr.hd (hd _ _ (.inr (.inr (.inr (.inl rfl))))), own_out h.fr.row hx fun b o hb => hd _ _ (.inr (.inr (.inr (.inr (.inl ?_))))), h.fr.wf, h.fr.bd⟩,
    own_out h.ac hx fun b o hb => hd _ _ (.inr (.inr (.inr (.inr (.inr (.inl ?_)))))), fun i a b ha hb => ?_, h.sep, h.geP, h.geF, h.geB, h.tl⟩
  · rwa [ownBlock_eq] at hb
  · rwa [ownBlock_eq] at hb
  · rwa [ownBlock_eq] at hb
  · rwa [ownBlock_eq] at hb
  · have hm := List.mem_of_getElem? hb
    have k := h.cl i a b ha hb
    exact ⟨hx.blk k.c1 (hd _ _ (.inr (.inr (.inr (.inr (.inr (.inr ⟨b, hm, .inl rfl⟩))))))), hx.blk k.c2 (hd _ _ (.inr (.inr (.inr (.inr (.inr (.inr ⟨b, hm, .inr (.inl rfl)⟩))))))), hx.blk k.c3 (hd _ _ (.inr (.inr (.inr (.inr (.inr (.inr ⟨b, hm, .inr (.inr rfl)⟩)))))))⟩
theorem PoolM.ext {w' : World} (h : PoolM B w m refs cnt last L ta az fl) (hx : Ext w w') : PoolM B w' m refs cnt last L ta az fl :=
  h.exc (D := fun _ _ => False) (Exc.of_ext hx) (fun _ _ _ h => h)
theorem PoolM.foot_lt (h : PoolM B w m refs cnt last L ta az fl) {q : Nat} (hq : m.foot q) : B ≤ q ∧ q < w.heap.size := by
  rcases hq with rfl | hq | hq | rfl | hq | hq | ⟨b, hb, hq⟩
  · exact ⟨h.geP, (Array.getElem?_eq_some_iff.1 h.hd).1⟩
  · exact World.ownsRow.lt h.cn q (by rw [ownBlock_eq]; exact hq)
  · exact World.ownsRow.lt h.la q (by rw [ownBlock_eq]; exact hq)
  · exact ⟨h.geF, (Array.getElem?_eq_some_iff.1 h.fr.hd).1⟩
  · exact World.ownsRow.lt h.fr.row q (by rw [ownBlock_eq]; exact hq)
  · exact World.ownsRow.lt h.ac q (by rw [ownBlock_eq]; exact hq)
  · obtain ⟨i, hi, rfl⟩ := List.getElem_of_mem hb
    have hia : i < az.length := by rw [← h.bl]; exact hi
    have k := h.cl i _ _ (List.getElem?_eq_getElem hia) (List.getElem?_eq_getElem hi)
    obtain ⟨g1, g2, g3⟩ := h.geB _ hb
    rcases hq with rfl | rfl | rfl
    · exact ⟨g1, (Array.getElem?_eq_some_iff.1 k.c1).1⟩
    · exact ⟨g2, (Array.getElem?_eq_some_iff.1 k.c2).1⟩
    · exact ⟨g3, (Array.getElem?_eq_some_iff.1 k.c3).1⟩
theorem PoolM.c (h : PoolM B w m refs cnt last L ta az fl) (i : Nat) : w.cell? ⟨m.p, i, none⟩ = (poolC m refs cnt.length last.length ta az.length fl)[i]? := cell_of_row _ _ _ _ _ _ h.hd
theorem PoolM.c4 (h : PoolM B w m refs cnt last L ta az fl) {k : Nat} (hk : k < 5) : w.cell? ⟨m.p, 4 + k, none⟩ = some (.int .i64 (ta.getD k 0)) := by
  rw [h.c]
  match k, hk with
  | 0, _ => rfl
  | 1, _ => rfl
  | 2, _ => rfl
  | 3, _ => rfl
  | 4, _ => rfl
theorem PoolM.f (h : PoolM B w m refs cnt last L ta az fl) (i : Nat) : w.frozen? ⟨m.p, i, none⟩ = false := frozen_of_row _ _ _ _ _ h.hd
theorem there_any (h : PoolM B w m refs cnt last L ta az fl) (n : Int) :
    Calls Try.prog 38 #[.pointer (some ⟨m.p, 0, none⟩), .int .i64 n] w fun e w' => e = .returned (.bool (decide (1 ≤ n ∧ n ≤ cnt.length))) ∧ w = w' := by
  have c1 : w.cell? ⟨m.p, 1, none⟩ = some (.slice m.cA cnt.length m.cc) := h.c 1
  go_enter Try.func38, Try.ntmps38
  go_wp2
  all_goals go_ret
  all_goals refine ⟨?_, rfl⟩
  all_goals first | (simp_all; done) | (simp_all; omega)
theorem state_any (h : PoolM B w m refs cnt last L ta az fl) (hl : last.length = cnt.length) (h6 : cnt.length ≤ 65536) (n : Int) :
    Calls Try.prog 14 #[.pointer (some ⟨m.p, 0, none⟩), .int .i64 n] w fun e w' => e = .returned (.int .i64 (stAt cnt last n)) ∧ w = w' := by
  have c1 : w.cell? ⟨m.p, 1, none⟩ = some (.slice m.cA cnt.length m.cc) := h.c 1
  have c2 : w.cell? ⟨m.p, 2, none⟩ = some (.slice m.lA last.length m.lc) := h.c 2
  by_cases hn : 1 ≤ n ∧ n ≤ cnt.length
  · obtain ⟨k, rfl⟩ : ∃ k : Nat, n = (k : Int) + 1 := ⟨(n - 1).toNat, by omega⟩
    have hk : k < cnt.length := by omega
    obtain ⟨g, hg, hc1, _, d1, _⟩ := h.cn.at hk
    obtain ⟨u, hu, hc2, _, d2, _⟩ := h.la.at (i := k) (by omega)
    have hst : stAt cnt last ((k : Int) + 1) = stOf (cnt.getD k 0) (last.getD k false) := by
      unfold stAt
      rw [if_pos hn, show ((k : Int) + 1 - 1).toNat = k by omega]
    have ht := there_any h ((k : Int) + 1)
    rw [decide_eq_true hn] at ht
    rw [hst]
    obtain ⟨c, hc⟩ : ∃ c, cnt.getD k 0 = c := ⟨_, rfl⟩
    obtain ⟨l, hl'⟩ : ∃ l, last.getD k false = l := ⟨_, rfl⟩
    rw [hc] at d1 ⊢
    rw [hl'] at d2 ⊢
    rw [hg] at c1
    rw [hu] at c2
    have hkl : k < last.length := by omega
    clear hg hu hc hl' hst hn h hl
    by_cases h0 : 0 < c <;> cases l
    all_goals
      go_enter Try.func14, Try.ntmps14
      go_wp2_with fail
      refine ht.mono ?_
      rintro e w2 ⟨rfl, rfl⟩
      go_wp2
      go_ret
      refine ⟨?_, rfl⟩
      simp [stOf, h0]
  · have ht := there_any h n
    rw [decide_eq_false hn] at ht
    have hst : stAt cnt last n = 0 := if_neg hn
    rw [hst]
    go_enter Try.func14, Try.ntmps14
    go_wp2_with fail
    refine ht.mono ?_
    rintro e w2 ⟨rfl, rfl⟩
    go_wp2
    go_ret
    exact ⟨rfl, rfl⟩
theorem count_any (h : PoolM B w m refs cnt last L ta az fl) (h6 : cnt.length ≤ 65536) (n : Int) :
    Calls Try.prog 18 #[.pointer (some ⟨m.p, 0, none⟩), .int .i64 n] w fun e w' => e = .returned (.int .i64 (cntAt cnt n)) ∧ w = w' := by
  have c1 : w.cell? ⟨m.p, 1, none⟩ = some (.slice m.cA cnt.length m.cc) := h.c 1
  by_cases hn : 1 ≤ n ∧ n ≤ cnt.length
  · obtain ⟨k, rfl⟩ : ∃ k : Nat, n = (k : Int) + 1 := ⟨(n - 1).toNat, by omega⟩
    have hk : k < cnt.length := by omega
    obtain ⟨g, hg, hc1, _, d1, _⟩ := h.cn.at hk
    have hst : cntAt cnt ((k : Int) + 1) = cnt.getD k 0 := by
      unfold cntAt
      rw [if_pos hn, show ((k : Int) + 1 - 1).toNat = k by omega]
    have ht := there_any h ((k : Int) + 1)
    rw [decide_eq_true hn] at ht
    rw [hst]
    rw [hg] at c1
    obtain ⟨c, hc⟩ : ∃ c, cnt.getD k 0 = c := ⟨_, rfl⟩
    rw [hc] at d1 ⊢
    clear hg hc hst hn h
    go_enter Try.func18, Try.ntmps18
    go_wp2_with fail
    refine ht.mono ?_
    rintro e w2 ⟨rfl, rfl⟩
    go_wp2
    go_ret
    exact ⟨rfl, rfl⟩
  · have ht := there_any h n
    rw [decide_eq_false hn] at ht
    have hst : cntAt cnt n = 0 := if_neg hn
    rw [hst]
    go_enter Try.func18, Try.ntmps18
    go_wp2_with fail
    refine ht.mono ?_
    rintro e w2 ⟨rfl, rfl⟩
    go_wp2
    go_ret
    exact ⟨rfl, rfl⟩
theorem len_any (h : PoolM B w m refs cnt last L ta az fl) :
    Calls Try.prog 42 #[.pointer (some ⟨m.p, 0, none⟩)] w fun e w' => e = .returned (.int .i64 cnt.length) ∧ w = w' := by
  have c1 : w.cell? ⟨m.p, 1, none⟩ = some (.slice m.cA cnt.length m.cc) := h.c 1
  go_enter Try.func42, Try.ntmps42
  go_wp2
  go_ret
  exact ⟨rfl, rfl⟩
theorem refs_any (h : PoolM B w m refs cnt last L ta az fl) :
    Calls Try.prog 19 #[.pointer (some ⟨m.p, 0, none⟩)] w fun e w' => e = .returned (.int .i64 refs) ∧ w = w' := by
  have c1 : w.cell? ⟨m.p, 0, none⟩ = some (.int .i64 refs) := h.c 0
  go_enter Try.func19, Try.ntmps19
  go_wp2
  go_ret
  exact ⟨rfl, rfl⟩
theorem mark_any (h : PoolM B w m refs cnt last L ta az fl) (hf : 0 ≤ fl ∧ fl ≤ 1000000) (ha : az.length ≤ 1000000) :
    Calls Try.prog 15 #[.pointer (some ⟨m.p, 0, none⟩)] w fun e w' => e = .returned (.int .i64 (fl + az.length)) ∧ Ext w w' := by
  have c1 : ∀ W, Ext w W → W.cell? ⟨m.p, 9, none⟩ = some (.slice m.aA az.length m.ac) := fun W hh => (h.ext hh).c 9
  have c2 : ∀ W, Ext w W → W.cell? ⟨m.p, 10, none⟩ = some (.int .i64 fl) := fun W hh => (h.ext hh).c 10
  go_enter Try.func15, Try.ntmps15
  go_wp2
  refine wp_region_rg Ext rel_ext (fun _ => True) [0, 1, 2, 3, 4, 5, 6, 7, 8, 9, 10] (fun _ => none) (fun _ => none) (fun _ => false) (by kernel_rfl) (by kernel_rfl) (fun _ _ _ _ => trivial) trivial (fun W N hW _ hN => ?_)
  have hEW := hW
  repeat (first | (apply wpR_one; (case ho => (simp only [List.getElem?_toArray, List.getElem?_cons_succ, List.getElem?_cons_zero]; try exact rfl)); (case hw => rfl); (case hl => rfl); (case hsp => rfl); (case he => rfl); (case hv => (intro w' hw'; (try (have hw2 := Ext.trans hEW hw')); (try (have hw3 := Exc.trans hEW hw')); (try (have hw4 := Exk.trans hEW hw')); (try (have hw5 := Mrk.trans hEW hw')); go_simp; exact rfl)); (case hw0 => (first | exact Below.refl _ _ | exact Exc.of_ext (Below.refl _ _) | exact Exk.of_ext (Below.refl _ _) | exact Mrk.of_ext (Below.refl _ _))); simp only [Act.put, List.setIfInBounds_toArray, List.set_cons_succ, List.set_cons_zero]) | (apply wpR_early; (case ho => (simp only [List.getElem?_toArray, List.getElem?_cons_succ, List.getElem?_cons_zero]; try exact rfl)); (case hw => rfl); (case hl => rfl); (case hsp => rfl); (case he => rfl); (case hv => (intro w' hw'; (try have hw2 := Ext.trans hEW hw'); go_simp; exact rfl)); simp only [Act.put, List.setIfInBounds_toArray, List.set_cons_succ, List.set_cons_zero]) | (apply wpR_pass; (case ho => (simp only [List.getElem?_toArray, List.getElem?_cons_succ, List.getElem?_cons_zero]; try exact rfl)); (case hw => rfl); (case hl => rfl); simp only [Act.put, List.setIfInBounds_toArray, List.set_cons_succ, List.set_cons_zero]))
  apply wpR_nil
  apply hN
  intro w2 hE2 hK _
  have hEE := hEW.trans hE2
  clear hK hN hW hEW hE2 c1 c2
  rw [IntWalk.i64_in (fl + (az.length : Int)) (by omega)]
  go_wp2
  go_ret
  exact ⟨rfl, hEE⟩
theorem tally_any (h : PoolM B w m refs cnt last L ta az fl) (k : Int) :
    Calls Try.prog 48 #[.pointer (some ⟨m.p, 0, none⟩), .int .i64 k] w fun e w' => e = .returned (.int .i64 (if 1 ≤ k ∧ k ≤ 4 then ta.getD k.toNat 0 else 0)) ∧ w = w' := by
  by_cases hn : 1 ≤ k ∧ k ≤ 4
  · rw [if_pos hn]
    obtain ⟨j, rfl⟩ : ∃ j : Nat, k = j := ⟨k.toNat, by omega⟩
    have hj : j < 5 := by omega
    have h1 : 1 ≤ (j : Int) := hn.1
    have h4 : (j : Int) ≤ 4 := hn.2
    have c1 := h.c4 hj
    rw [Int.toNat_natCast]
    clear hn
    go_enter Try.func48, Try.ntmps48
    go_wp2
    go_ret
    exact ⟨rfl, rfl⟩
  · rw [if_neg hn]
    go_enter Try.func48, Try.ntmps48
    go_wp2
    all_goals go_ret
    all_goals first | exact ⟨rfl, rfl⟩ | (exfalso; omega)
end
end Go.Proofs.Ytaalhicdeibodaa
