/- Layer 10: same, ago, asked (printed by mk_ask.py). No condition but the sizes. -/
import Derived.Test.YtaalhicdeibodaaPact
namespace Go.Proofs.Ytaalhicdeibodaa
open Go.RowKit Go.Proofs Go.Shelf
set_option linter.unusedVariables false
def Ans.v (a : Ans) (A : Option Addr) (c : Nat) : Value := .agg #[.int .i64 a.n, .int .i64 a.m, .bool a.is, .slice A a.l.length c, .int .i64 a.e]
theorem rowI_nil (B : Nat) (w : World) : RowI B w none 0 [] := World.ownsRow_nil _ _ _ _
/-- What a call leaves. -/
def AskP (B N : Nat) (w : World) (m : Pm) (s' : Pl) (a : Ans) (e : Ending) (w' : World) : Prop := ∃ m' A c, e = .returned (a.v A c) ∧ PoolS B N w' m' s' ∧ Moved m m' w w' ∧ RowI w.heap.size w' A c a.l
theorem ask_fin {B N : Nat} {w w1 w2 w4 : World} {m m' : Pm} {s s' : Pl} {A : Option Addr} {c : Nat} {l : List Int} {M : Nat} (hE : Ext w w1) (hsz : w1.heap.size = w.heap.size + 2) (hP : PoolS B N w m s) (hP2 : PoolS B M w2 m' s') (mv : Moved m m' w1 w2) (hR : RowI (w.heap.size + 2) w2 A c l) (hg : w2.grownBy w4 (some (w.heap.size + 1))) :
    PoolS B M w4 m' s' ∧ Moved m m' w w4 ∧ RowI w.heap.size w4 A c l := by
  have hx : Exc (fun q _ => q = w.heap.size + 1) w2 w4 := Exc.of_only hg (fun _ _ => rfl)
  have hf : ∀ q, m'.foot q → q ≠ w.heap.size + 1 := fun q hq e => by
    rcases mv.foot q hq with h | h
    · have := (hP.foot_lt h).2
      omega
    · omega
  refine ⟨hP2.exc hx (fun q o hq e => hf q hq e), ⟨mv.p, ?_, fun q hq => ?_⟩, ?_⟩
  · have h12 := ((Moved.of_ext (m := m) hE).trans mv).x
    refine ⟨hx.os.trans h12.os, hx.tape.trans h12.tape, hx.output.trans h12.output, Nat.le_trans h12.size hx.size, fun q o ho hn => ?_⟩
    exact hx.block q o (h12.block q o ho hn) (fun e => by have := (Array.getElem?_eq_some_iff.1 ho).1; omega)
  · rcases mv.foot q hq with h | h
    · exact .inl h
    · exact .inr (by omega)
  · refine own_mono (own_out hR hx (fun b o hb e => ?_)) (by omega)
    have := (own_blk hR hb).1
    omega
theorem ago_any {w : World} {A : Option Addr} {c : Nat} {marks : List Int} (hx : NLi w A c marks) (hl : marks.length ≤ 100000) (n : Int) :
    Calls Try.prog 49 #[.slice A marks.length c, .int .i64 n] w fun e w' => e = .returned (.int .i64 (agoZ marks n)) ∧ w = w' := by
  by_cases h1 : n < 0
  · have hz : agoZ marks n = -1 := if_pos (.inl h1)
    rw [hz]
    have b1 : decide (n < 0) = true := decide_eq_true h1
    go_enter Try.func49, Try.ntmps49
    go_wp2
    go_ret
    exact ⟨rfl, rfl⟩
  by_cases h2 : (marks.length : Int) ≤ n
  · have hz : agoZ marks n = -1 := if_pos (.inr h2)
    rw [hz]
    go_enter Try.func49, Try.ntmps49
    go_wp2
    go_ret
    exact ⟨rfl, rfl⟩
  have hz : agoZ marks n = marks.getD (marks.length - 1 - n.toNat) 0 := if_neg (fun h => h.elim h1 h2)
  rw [hz]
  obtain ⟨k, hk⟩ : ∃ k : Nat, n = (k : Int) := ⟨n.toNat, by omega⟩
  subst hk
  rw [Int.toNat_natCast]
  obtain ⟨j, hj⟩ : ∃ j : Nat, marks.length - 1 - k = j := ⟨_, rfl⟩
  obtain ⟨L, hL⟩ : ∃ L : Nat, marks.length = L := ⟨_, rfl⟩
  rw [hj]
  have hjl : j < marks.length := by omega
  have hz0 : marks[j]? = some (marks.getD j 0) := by rw [List.getD_eq_getElem?_getD, List.getElem?_eq_getElem hjl]; rfl
  obtain ⟨z, hzz⟩ : ∃ z, marks.getD j 0 = z := ⟨_, rfl⟩
  rw [hzz] at hz0 ⊢
  obtain ⟨b, off, rfl, hc⟩ := hx.rd (by omega)
  have e1 := hc j z hz0
  have hlc := hx.le
  rw [hL] at hlc hjl h2 ⊢
  have i1 : IntKind.i64.wrap ((L : Int) - 1) = (L : Int) - 1 := IntWalk.i64_in _ (by omega)
  have i2 : IntKind.i64.wrap ((L : Int) - 1 - (k : Int)) = (j : Int) := by rw [show (L : Int) - 1 - (k : Int) = (j : Int) by omega]; exact IntWalk.i64_in _ (by omega)
  have f1 : ¬ (k : Int) < 0 := by omega
  have f2 : ¬ (L : Int) ≤ (k : Int) := by omega
  have f3 : ¬ (j : Int) < 0 := by omega
  have f4 : (j : Int) < (L : Int) := by omega
  clear hz hj hL hz0 hzz hc hx hl
  go_enter Try.func49, Try.ntmps49
  go_wp2
  go_ret
  exact ⟨rfl, rfl⟩
set_option maxRecDepth 100000 in
set_option maxHeartbeats 1000000 in
theorem asked0 {B N : Nat} {w : World} {m : Pm} {s : Pl} (h : PoolS B N w m s) (hN : N ≤ 99000) (hBw : B ≤ w.heap.size) (n t : Int) (MA : Option Addr) (ml mc : Nat) :
    Calls Try.prog 25 #[.pointer (some ⟨m.p, 0, none⟩), .agg #[.int .i64 0, .int .i64 n, .int .i64 t], .slice MA ml mc] w (AskP B (N + 1) w m s.allocS ⟨lowF s.sts, 0, false, [], s.allocE⟩) := by
  have hE := (ext_alloc w (Obj.cells #[.int .i64 0, .int .i64 n, .int .i64 t] 33)).trans (ext_alloc (w.alloc (Obj.cells #[.int .i64 0, .int .i64 n, .int .i64 t] 33)) (Obj.cells #[.int .i64 0, .int .i64 0, .bool false, .slice none 0 0, .int .i64 0] 54))
  have hb1 := (ext_alloc (w.alloc (Obj.cells #[.int .i64 0, .int .i64 n, .int .i64 t] 33)) (Obj.cells #[.int .i64 0, .int .i64 0, .bool false, .slice none 0 0, .int .i64 0] 54)).blk (heap_alloc_new w (Obj.cells #[.int .i64 0, .int .i64 n, .int .i64 t] 33))
  have hb2 := heap_alloc_new (w.alloc (Obj.cells #[.int .i64 0, .int .i64 n, .int .i64 t] 33)) (Obj.cells #[.int .i64 0, .int .i64 0, .bool false, .slice none 0 0, .int .i64 0] 54)
  have hsz : ((w.alloc (Obj.cells #[.int .i64 0, .int .i64 n, .int .i64 t] 33)).alloc (Obj.cells #[.int .i64 0, .int .i64 0, .bool false, .slice none 0 0, .int .i64 0] 54)).heap.size = w.heap.size + 2 := by simp
  rw [show (w.alloc (Obj.cells #[.int .i64 0, .int .i64 n, .int .i64 t] 33)).heap.size = w.heap.size + 1 by simp] at hb2
  have h1 := h.ext hE
  have hB1 : B ≤ ((w.alloc (Obj.cells #[.int .i64 0, .int .i64 n, .int .i64 t] 33)).alloc (Obj.cells #[.int .i64 0, .int .i64 0, .bool false, .slice none 0 0, .int .i64 0] 54)).heap.size := by rw [hsz]; omega
  have hnf : ¬ m.foot (w.heap.size + 1) := fun e => by have := (h.foot_lt e).2; omega
  have hc := alloc_any h1 (by omega) hB1
  go_enter Try.func25, Try.ntmps25
  go_wp2_with fail
  refine hc.mono ?_
  rintro e w2 ⟨m', rfl, q1, q2⟩
  clear hc
  have hb2 := q2.x.blk hb2 hnf
  go_wp2_with (refine wpList_store_box rfl 54 _ _ rfl (w.heap.size + 1) _ rfl rfl 54 _ hb2 (by kernel_rfl) rfl (by simp [Value.oneCell']) (fun w4 hb hg => ?_))
  obtain ⟨z1, z2, z3⟩ := ask_fin hE hsz h q1 q2 (rowI_nil _ _) hg
  exact bodyPost_ret (results_cell_row rfl _ _ _ _ _ _ _ rfl hb Try.underlying54 rfl (by kernel_rfl)) rfl ⟨m', none, 0, rfl, z1, z2, z3⟩
set_option maxRecDepth 100000 in
set_option maxHeartbeats 1000000 in
theorem asked1 {B N : Nat} {w : World} {m : Pm} {s : Pl} (h : PoolS B N w m s) (hN : N ≤ 99000) (hBw : B ≤ w.heap.size) (n t : Int) (MA : Option Addr) (ml mc : Nat) :
    Calls Try.prog 25 #[.pointer (some ⟨m.p, 0, none⟩), .agg #[.int .i64 1, .int .i64 n, .int .i64 t], .slice MA ml mc] w (AskP B (N + 1) w m (s.incS n) ⟨0, 0, false, [], s.incE n⟩) := by
  have hE := (ext_alloc w (Obj.cells #[.int .i64 1, .int .i64 n, .int .i64 t] 33)).trans (ext_alloc (w.alloc (Obj.cells #[.int .i64 1, .int .i64 n, .int .i64 t] 33)) (Obj.cells #[.int .i64 0, .int .i64 0, .bool false, .slice none 0 0, .int .i64 0] 54))
  have hb1 := (ext_alloc (w.alloc (Obj.cells #[.int .i64 1, .int .i64 n, .int .i64 t] 33)) (Obj.cells #[.int .i64 0, .int .i64 0, .bool false, .slice none 0 0, .int .i64 0] 54)).blk (heap_alloc_new w (Obj.cells #[.int .i64 1, .int .i64 n, .int .i64 t] 33))
  have hb2 := heap_alloc_new (w.alloc (Obj.cells #[.int .i64 1, .int .i64 n, .int .i64 t] 33)) (Obj.cells #[.int .i64 0, .int .i64 0, .bool false, .slice none 0 0, .int .i64 0] 54)
  have hsz : ((w.alloc (Obj.cells #[.int .i64 1, .int .i64 n, .int .i64 t] 33)).alloc (Obj.cells #[.int .i64 0, .int .i64 0, .bool false, .slice none 0 0, .int .i64 0] 54)).heap.size = w.heap.size + 2 := by simp
  rw [show (w.alloc (Obj.cells #[.int .i64 1, .int .i64 n, .int .i64 t] 33)).heap.size = w.heap.size + 1 by simp] at hb2
  have h1 := h.ext hE
  have hB1 : B ≤ ((w.alloc (Obj.cells #[.int .i64 1, .int .i64 n, .int .i64 t] 33)).alloc (Obj.cells #[.int .i64 0, .int .i64 0, .bool false, .slice none 0 0, .int .i64 0] 54)).heap.size := by rw [hsz]; omega
  have hnf : ¬ m.foot (w.heap.size + 1) := fun e => by have := (h.foot_lt e).2; omega
  have hc := inc_any h1 (by omega) hB1 n
  go_enter Try.func25, Try.ntmps25
  go_wp2_with fail
  refine hc.mono ?_
  rintro e w2 ⟨m', rfl, q1, q2⟩
  clear hc
  have hb2 := q2.x.blk hb2 hnf
  go_wp2_with (refine wpList_store_box rfl 54 _ _ rfl (w.heap.size + 1) _ rfl rfl 54 _ hb2 (by kernel_rfl) rfl (by simp [Value.oneCell']) (fun w4 hb hg => ?_))
  obtain ⟨z1, z2, z3⟩ := ask_fin hE hsz h q1 q2 (rowI_nil _ _) hg
  exact bodyPost_ret (results_cell_row rfl _ _ _ _ _ _ _ rfl hb Try.underlying54 rfl (by kernel_rfl)) rfl ⟨m', none, 0, rfl, z1, z2, z3⟩
set_option maxRecDepth 100000 in
set_option maxHeartbeats 1000000 in
theorem asked2 {B N : Nat} {w : World} {m : Pm} {s : Pl} (h : PoolS B N w m s) (hN : N ≤ 99000) (hBw : B ≤ w.heap.size) (n t : Int) (MA : Option Addr) (ml mc : Nat) :
    Calls Try.prog 25 #[.pointer (some ⟨m.p, 0, none⟩), .agg #[.int .i64 2, .int .i64 n, .int .i64 t], .slice MA ml mc] w (AskP B (N + 1) w m (s.decS n) ⟨s.decN n, 0, false, [], s.decE n⟩) := by
  have hE := (ext_alloc w (Obj.cells #[.int .i64 2, .int .i64 n, .int .i64 t] 33)).trans (ext_alloc (w.alloc (Obj.cells #[.int .i64 2, .int .i64 n, .int .i64 t] 33)) (Obj.cells #[.int .i64 0, .int .i64 0, .bool false, .slice none 0 0, .int .i64 0] 54))
  have hb1 := (ext_alloc (w.alloc (Obj.cells #[.int .i64 2, .int .i64 n, .int .i64 t] 33)) (Obj.cells #[.int .i64 0, .int .i64 0, .bool false, .slice none 0 0, .int .i64 0] 54)).blk (heap_alloc_new w (Obj.cells #[.int .i64 2, .int .i64 n, .int .i64 t] 33))
  have hb2 := heap_alloc_new (w.alloc (Obj.cells #[.int .i64 2, .int .i64 n, .int .i64 t] 33)) (Obj.cells #[.int .i64 0, .int .i64 0, .bool false, .slice none 0 0, .int .i64 0] 54)
  have hsz : ((w.alloc (Obj.cells #[.int .i64 2, .int .i64 n, .int .i64 t] 33)).alloc (Obj.cells #[.int .i64 0, .int .i64 0, .bool false, .slice none 0 0, .int .i64 0] 54)).heap.size = w.heap.size + 2 := by simp
  rw [show (w.alloc (Obj.cells #[.int .i64 2, .int .i64 n, .int .i64 t] 33)).heap.size = w.heap.size + 1 by simp] at hb2
  have h1 := h.ext hE
  have hB1 : B ≤ ((w.alloc (Obj.cells #[.int .i64 2, .int .i64 n, .int .i64 t] 33)).alloc (Obj.cells #[.int .i64 0, .int .i64 0, .bool false, .slice none 0 0, .int .i64 0] 54)).heap.size := by rw [hsz]; omega
  have hnf : ¬ m.foot (w.heap.size + 1) := fun e => by have := (h.foot_lt e).2; omega
  have hc := dec_any h1 (by omega) hB1 n
  go_enter Try.func25, Try.ntmps25
  go_wp2_with fail
  refine hc.mono ?_
  rintro e w2 ⟨m', rfl, q1, q2⟩
  clear hc
  have hb2 := q2.x.blk hb2 hnf
  go_wp2_with (refine wpList_store_box rfl 54 _ _ rfl (w.heap.size + 1) _ rfl rfl 54 _ hb2 (by kernel_rfl) rfl (by simp [Value.oneCell']) (fun w4 hb hg => ?_))
  obtain ⟨z1, z2, z3⟩ := ask_fin hE hsz h q1 q2 (rowI_nil _ _) hg
  exact bodyPost_ret (results_cell_row rfl _ _ _ _ _ _ _ rfl hb Try.underlying54 rfl (by kernel_rfl)) rfl ⟨m', none, 0, rfl, z1, z2, z3⟩
set_option maxRecDepth 100000 in
set_option maxHeartbeats 1000000 in
theorem asked3 {B N : Nat} {w : World} {m : Pm} {s : Pl} (h : PoolS B N w m s) (hN : N ≤ 99000) (hBw : B ≤ w.heap.size) (n t : Int) (MA : Option Addr) (ml mc : Nat) :
    Calls Try.prog 25 #[.pointer (some ⟨m.p, 0, none⟩), .agg #[.int .i64 3, .int .i64 n, .int .i64 t], .slice MA ml mc] w (AskP B (N + 1) w m s ⟨cntAt s.cnt n, 0, false, [], 0⟩) := by
  have hE := (ext_alloc w (Obj.cells #[.int .i64 3, .int .i64 n, .int .i64 t] 33)).trans (ext_alloc (w.alloc (Obj.cells #[.int .i64 3, .int .i64 n, .int .i64 t] 33)) (Obj.cells #[.int .i64 0, .int .i64 0, .bool false, .slice none 0 0, .int .i64 0] 54))
  have hb1 := (ext_alloc (w.alloc (Obj.cells #[.int .i64 3, .int .i64 n, .int .i64 t] 33)) (Obj.cells #[.int .i64 0, .int .i64 0, .bool false, .slice none 0 0, .int .i64 0] 54)).blk (heap_alloc_new w (Obj.cells #[.int .i64 3, .int .i64 n, .int .i64 t] 33))
  have hb2 := heap_alloc_new (w.alloc (Obj.cells #[.int .i64 3, .int .i64 n, .int .i64 t] 33)) (Obj.cells #[.int .i64 0, .int .i64 0, .bool false, .slice none 0 0, .int .i64 0] 54)
  have hsz : ((w.alloc (Obj.cells #[.int .i64 3, .int .i64 n, .int .i64 t] 33)).alloc (Obj.cells #[.int .i64 0, .int .i64 0, .bool false, .slice none 0 0, .int .i64 0] 54)).heap.size = w.heap.size + 2 := by simp
  rw [show (w.alloc (Obj.cells #[.int .i64 3, .int .i64 n, .int .i64 t] 33)).heap.size = w.heap.size + 1 by simp] at hb2
  have h1 := h.ext hE
  have hB1 : B ≤ ((w.alloc (Obj.cells #[.int .i64 3, .int .i64 n, .int .i64 t] 33)).alloc (Obj.cells #[.int .i64 0, .int .i64 0, .bool false, .slice none 0 0, .int .i64 0] 54)).heap.size := by rw [hsz]; omega
  have hnf : ¬ m.foot (w.heap.size + 1) := fun e => by have := (h.foot_lt e).2; omega
  have hc := count_pool h1 n
  go_enter Try.func25, Try.ntmps25
  go_wp2_with fail
  refine hc.mono ?_
  rintro e w2 ⟨rfl, rfl⟩
  clear hc
  go_wp2_with (refine wpList_store_box rfl 54 _ _ rfl (w.heap.size + 1) _ rfl rfl 54 _ hb2 (by kernel_rfl) rfl (by simp [Value.oneCell']) (fun w4 hb hg => ?_))
  obtain ⟨z1, z2, z3⟩ := ask_fin hE hsz h (h1.mono (Nat.le_succ _)) (Moved.refl _ _) (rowI_nil _ _) hg
  exact bodyPost_ret (results_cell_row rfl _ _ _ _ _ _ _ rfl hb Try.underlying54 rfl (by kernel_rfl)) rfl ⟨m, none, 0, rfl, z1, z2, z3⟩
set_option maxRecDepth 100000 in
set_option maxHeartbeats 1000000 in
theorem asked4 {B N : Nat} {w : World} {m : Pm} {s : Pl} (h : PoolS B N w m s) (hN : N ≤ 99000) (hBw : B ≤ w.heap.size) (n t : Int) (MA : Option Addr) (ml mc : Nat) :
    Calls Try.prog 25 #[.pointer (some ⟨m.p, 0, none⟩), .agg #[.int .i64 4, .int .i64 n, .int .i64 t], .slice MA ml mc] w (AskP B (N + 1) w m s ⟨stAt s.cnt s.last n, 0, false, [], 0⟩) := by
  have hE := (ext_alloc w (Obj.cells #[.int .i64 4, .int .i64 n, .int .i64 t] 33)).trans (ext_alloc (w.alloc (Obj.cells #[.int .i64 4, .int .i64 n, .int .i64 t] 33)) (Obj.cells #[.int .i64 0, .int .i64 0, .bool false, .slice none 0 0, .int .i64 0] 54))
  have hb1 := (ext_alloc (w.alloc (Obj.cells #[.int .i64 4, .int .i64 n, .int .i64 t] 33)) (Obj.cells #[.int .i64 0, .int .i64 0, .bool false, .slice none 0 0, .int .i64 0] 54)).blk (heap_alloc_new w (Obj.cells #[.int .i64 4, .int .i64 n, .int .i64 t] 33))
  have hb2 := heap_alloc_new (w.alloc (Obj.cells #[.int .i64 4, .int .i64 n, .int .i64 t] 33)) (Obj.cells #[.int .i64 0, .int .i64 0, .bool false, .slice none 0 0, .int .i64 0] 54)
  have hsz : ((w.alloc (Obj.cells #[.int .i64 4, .int .i64 n, .int .i64 t] 33)).alloc (Obj.cells #[.int .i64 0, .int .i64 0, .bool false, .slice none 0 0, .int .i64 0] 54)).heap.size = w.heap.size + 2 := by simp
  rw [show (w.alloc (Obj.cells #[.int .i64 4, .int .i64 n, .int .i64 t] 33)).heap.size = w.heap.size + 1 by simp] at hb2
  have h1 := h.ext hE
  have hB1 : B ≤ ((w.alloc (Obj.cells #[.int .i64 4, .int .i64 n, .int .i64 t] 33)).alloc (Obj.cells #[.int .i64 0, .int .i64 0, .bool false, .slice none 0 0, .int .i64 0] 54)).heap.size := by rw [hsz]; omega
  have hnf : ¬ m.foot (w.heap.size + 1) := fun e => by have := (h.foot_lt e).2; omega
  have hc := state_pool h1 n
  go_enter Try.func25, Try.ntmps25
  go_wp2_with fail
  refine hc.mono ?_
  rintro e w2 ⟨rfl, rfl⟩
  clear hc
  go_wp2_with (refine wpList_store_box rfl 54 _ _ rfl (w.heap.size + 1) _ rfl rfl 54 _ hb2 (by kernel_rfl) rfl (by simp [Value.oneCell']) (fun w4 hb hg => ?_))
  obtain ⟨z1, z2, z3⟩ := ask_fin hE hsz h (h1.mono (Nat.le_succ _)) (Moved.refl _ _) (rowI_nil _ _) hg
  exact bodyPost_ret (results_cell_row rfl _ _ _ _ _ _ _ rfl hb Try.underlying54 rfl (by kernel_rfl)) rfl ⟨m, none, 0, rfl, z1, z2, z3⟩
set_option maxRecDepth 100000 in
set_option maxHeartbeats 1000000 in
theorem asked5 {B N : Nat} {w : World} {m : Pm} {s : Pl} (h : PoolS B N w m s) (hN : N ≤ 99000) (hBw : B ≤ w.heap.size) (n t : Int) (MA : Option Addr) (ml mc : Nat) :
    Calls Try.prog 25 #[.pointer (some ⟨m.p, 0, none⟩), .agg #[.int .i64 5, .int .i64 n, .int .i64 t], .slice MA ml mc] w (AskP B (N + 1) w m s ⟨talOf s.sts n, 0, false, [], 0⟩) := by
  have hE := (ext_alloc w (Obj.cells #[.int .i64 5, .int .i64 n, .int .i64 t] 33)).trans (ext_alloc (w.alloc (Obj.cells #[.int .i64 5, .int .i64 n, .int .i64 t] 33)) (Obj.cells #[.int .i64 0, .int .i64 0, .bool false, .slice none 0 0, .int .i64 0] 54))
  have hb1 := (ext_alloc (w.alloc (Obj.cells #[.int .i64 5, .int .i64 n, .int .i64 t] 33)) (Obj.cells #[.int .i64 0, .int .i64 0, .bool false, .slice none 0 0, .int .i64 0] 54)).blk (heap_alloc_new w (Obj.cells #[.int .i64 5, .int .i64 n, .int .i64 t] 33))
  have hb2 := heap_alloc_new (w.alloc (Obj.cells #[.int .i64 5, .int .i64 n, .int .i64 t] 33)) (Obj.cells #[.int .i64 0, .int .i64 0, .bool false, .slice none 0 0, .int .i64 0] 54)
  have hsz : ((w.alloc (Obj.cells #[.int .i64 5, .int .i64 n, .int .i64 t] 33)).alloc (Obj.cells #[.int .i64 0, .int .i64 0, .bool false, .slice none 0 0, .int .i64 0] 54)).heap.size = w.heap.size + 2 := by simp
  rw [show (w.alloc (Obj.cells #[.int .i64 5, .int .i64 n, .int .i64 t] 33)).heap.size = w.heap.size + 1 by simp] at hb2
  have h1 := h.ext hE
  have hB1 : B ≤ ((w.alloc (Obj.cells #[.int .i64 5, .int .i64 n, .int .i64 t] 33)).alloc (Obj.cells #[.int .i64 0, .int .i64 0, .bool false, .slice none 0 0, .int .i64 0] 54)).heap.size := by rw [hsz]; omega
  have hnf : ¬ m.foot (w.heap.size + 1) := fun e => by have := (h.foot_lt e).2; omega
  have hc := tally_pool h1 n
  go_enter Try.func25, Try.ntmps25
  go_wp2_with fail
  refine hc.mono ?_
  rintro e w2 ⟨rfl, rfl⟩
  clear hc
  go_wp2_with (refine wpList_store_box rfl 54 _ _ rfl (w.heap.size + 1) _ rfl rfl 54 _ hb2 (by kernel_rfl) rfl (by simp [Value.oneCell']) (fun w4 hb hg => ?_))
  obtain ⟨z1, z2, z3⟩ := ask_fin hE hsz h (h1.mono (Nat.le_succ _)) (Moved.refl _ _) (rowI_nil _ _) hg
  exact bodyPost_ret (results_cell_row rfl _ _ _ _ _ _ _ rfl hb Try.underlying54 rfl (by kernel_rfl)) rfl ⟨m, none, 0, rfl, z1, z2, z3⟩
set_option maxRecDepth 100000 in
set_option maxHeartbeats 1000000 in
theorem asked6 {B N : Nat} {w : World} {m : Pm} {s : Pl} (h : PoolS B N w m s) (hN : N ≤ 99000) (hBw : B ≤ w.heap.size) (n t : Int) (MA : Option Addr) (ml mc : Nat) :
    Calls Try.prog 25 #[.pointer (some ⟨m.p, 0, none⟩), .agg #[.int .i64 6, .int .i64 n, .int .i64 t], .slice MA ml mc] w (AskP B (N + 1) w m s ⟨0, 0, false, stopL t (s.pages n), 0⟩) := by
  have hE := (ext_alloc w (Obj.cells #[.int .i64 6, .int .i64 n, .int .i64 t] 33)).trans (ext_alloc (w.alloc (Obj.cells #[.int .i64 6, .int .i64 n, .int .i64 t] 33)) (Obj.cells #[.int .i64 0, .int .i64 0, .bool false, .slice none 0 0, .int .i64 0] 54))
  have hb1 := (ext_alloc (w.alloc (Obj.cells #[.int .i64 6, .int .i64 n, .int .i64 t] 33)) (Obj.cells #[.int .i64 0, .int .i64 0, .bool false, .slice none 0 0, .int .i64 0] 54)).blk (heap_alloc_new w (Obj.cells #[.int .i64 6, .int .i64 n, .int .i64 t] 33))
  have hb2 := heap_alloc_new (w.alloc (Obj.cells #[.int .i64 6, .int .i64 n, .int .i64 t] 33)) (Obj.cells #[.int .i64 0, .int .i64 0, .bool false, .slice none 0 0, .int .i64 0] 54)
  have hsz : ((w.alloc (Obj.cells #[.int .i64 6, .int .i64 n, .int .i64 t] 33)).alloc (Obj.cells #[.int .i64 0, .int .i64 0, .bool false, .slice none 0 0, .int .i64 0] 54)).heap.size = w.heap.size + 2 := by simp
  rw [show (w.alloc (Obj.cells #[.int .i64 6, .int .i64 n, .int .i64 t] 33)).heap.size = w.heap.size + 1 by simp] at hb2
  have h1 := h.ext hE
  have hB1 : B ≤ ((w.alloc (Obj.cells #[.int .i64 6, .int .i64 n, .int .i64 t] 33)).alloc (Obj.cells #[.int .i64 0, .int .i64 0, .bool false, .slice none 0 0, .int .i64 0] 54)).heap.size := by rw [hsz]; omega
  have hnf : ¬ m.foot (w.heap.size + 1) := fun e => by have := (h.foot_lt e).2; omega
  have hc := walked_any h1 n t
  go_enter Try.func25, Try.ntmps25
  go_wp2_with fail
  refine hc.mono ?_
  rintro e w2 ⟨A, c, rfl, hR, hx⟩
  clear hc
  have hb2 := hx.blk hb2
  rw [hsz] at hR
  go_wp2_with (refine wpList_store_box rfl 54 _ _ rfl (w.heap.size + 1) _ rfl rfl 54 _ hb2 (by kernel_rfl) rfl (by simp [Value.oneCell']) (fun w4 hb hg => ?_))
  obtain ⟨z1, z2, z3⟩ := ask_fin hE hsz h ((h1.ext hx).mono (Nat.le_succ _)) (Moved.of_ext hx) hR hg
  exact bodyPost_ret (results_cell_row rfl _ _ _ _ _ _ _ rfl hb Try.underlying54 rfl (by kernel_rfl)) rfl ⟨m, A, c, rfl, z1, z2, z3⟩
set_option maxRecDepth 100000 in
set_option maxHeartbeats 1000000 in
theorem asked7 {B N : Nat} {w : World} {m : Pm} {s : Pl} (h : PoolS B N w m s) (hN : N ≤ 99000) (hBw : B ≤ w.heap.size) (n t : Int) (MA : Option Addr) (ml mc : Nat) :
    Calls Try.prog 25 #[.pointer (some ⟨m.p, 0, none⟩), .agg #[.int .i64 7, .int .i64 n, .int .i64 t], .slice MA ml mc] w (AskP B (N + 1) w m s ⟨0, 0, false, s.cnt, 0⟩) := by
  have hE := (ext_alloc w (Obj.cells #[.int .i64 7, .int .i64 n, .int .i64 t] 33)).trans (ext_alloc (w.alloc (Obj.cells #[.int .i64 7, .int .i64 n, .int .i64 t] 33)) (Obj.cells #[.int .i64 0, .int .i64 0, .bool false, .slice none 0 0, .int .i64 0] 54))
  have hb1 := (ext_alloc (w.alloc (Obj.cells #[.int .i64 7, .int .i64 n, .int .i64 t] 33)) (Obj.cells #[.int .i64 0, .int .i64 0, .bool false, .slice none 0 0, .int .i64 0] 54)).blk (heap_alloc_new w (Obj.cells #[.int .i64 7, .int .i64 n, .int .i64 t] 33))
  have hb2 := heap_alloc_new (w.alloc (Obj.cells #[.int .i64 7, .int .i64 n, .int .i64 t] 33)) (Obj.cells #[.int .i64 0, .int .i64 0, .bool false, .slice none 0 0, .int .i64 0] 54)
  have hsz : ((w.alloc (Obj.cells #[.int .i64 7, .int .i64 n, .int .i64 t] 33)).alloc (Obj.cells #[.int .i64 0, .int .i64 0, .bool false, .slice none 0 0, .int .i64 0] 54)).heap.size = w.heap.size + 2 := by simp
  rw [show (w.alloc (Obj.cells #[.int .i64 7, .int .i64 n, .int .i64 t] 33)).heap.size = w.heap.size + 1 by simp] at hb2
  have h1 := h.ext hE
  have hB1 : B ≤ ((w.alloc (Obj.cells #[.int .i64 7, .int .i64 n, .int .i64 t] 33)).alloc (Obj.cells #[.int .i64 0, .int .i64 0, .bool false, .slice none 0 0, .int .i64 0] 54)).heap.size := by rw [hsz]; omega
  have hnf : ¬ m.foot (w.heap.size + 1) := fun e => by have := (h.foot_lt e).2; omega
  have hc := counts_any h1
  go_enter Try.func25, Try.ntmps25
  go_wp2_with fail
  refine hc.mono ?_
  rintro e w2 ⟨A, c, rfl, hR, hx⟩
  clear hc
  have hb2 := hx.blk hb2
  rw [hsz] at hR
  go_wp2_with (refine wpList_store_box rfl 54 _ _ rfl (w.heap.size + 1) _ rfl rfl 54 _ hb2 (by kernel_rfl) rfl (by simp [Value.oneCell']) (fun w4 hb hg => ?_))
  obtain ⟨z1, z2, z3⟩ := ask_fin hE hsz h ((h1.ext hx).mono (Nat.le_succ _)) (Moved.of_ext hx) hR hg
  exact bodyPost_ret (results_cell_row rfl _ _ _ _ _ _ _ rfl hb Try.underlying54 rfl (by kernel_rfl)) rfl ⟨m, A, c, rfl, z1, z2, z3⟩
set_option maxRecDepth 100000 in
set_option maxHeartbeats 1000000 in
theorem asked8 {B N : Nat} {w : World} {m : Pm} {s : Pl} (h : PoolS B N w m s) (hN : N ≤ 99000) (hBw : B ≤ w.heap.size) (n t : Int) (MA : Option Addr) (ml mc : Nat) :
    Calls Try.prog 25 #[.pointer (some ⟨m.p, 0, none⟩), .agg #[.int .i64 8, .int .i64 n, .int .i64 t], .slice MA ml mc] w (AskP B (N + 1) w m s ⟨s.acts.length, 0, false, [], 0⟩) := by
  have hE := (ext_alloc w (Obj.cells #[.int .i64 8, .int .i64 n, .int .i64 t] 33)).trans (ext_alloc (w.alloc (Obj.cells #[.int .i64 8, .int .i64 n, .int .i64 t] 33)) (Obj.cells #[.int .i64 0, .int .i64 0, .bool false, .slice none 0 0, .int .i64 0] 54))
  have hb1 := (ext_alloc (w.alloc (Obj.cells #[.int .i64 8, .int .i64 n, .int .i64 t] 33)) (Obj.cells #[.int .i64 0, .int .i64 0, .bool false, .slice none 0 0, .int .i64 0] 54)).blk (heap_alloc_new w (Obj.cells #[.int .i64 8, .int .i64 n, .int .i64 t] 33))
  have hb2 := heap_alloc_new (w.alloc (Obj.cells #[.int .i64 8, .int .i64 n, .int .i64 t] 33)) (Obj.cells #[.int .i64 0, .int .i64 0, .bool false, .slice none 0 0, .int .i64 0] 54)
  have hsz : ((w.alloc (Obj.cells #[.int .i64 8, .int .i64 n, .int .i64 t] 33)).alloc (Obj.cells #[.int .i64 0, .int .i64 0, .bool false, .slice none 0 0, .int .i64 0] 54)).heap.size = w.heap.size + 2 := by simp
  rw [show (w.alloc (Obj.cells #[.int .i64 8, .int .i64 n, .int .i64 t] 33)).heap.size = w.heap.size + 1 by simp] at hb2
  have h1 := h.ext hE
  have hB1 : B ≤ ((w.alloc (Obj.cells #[.int .i64 8, .int .i64 n, .int .i64 t] 33)).alloc (Obj.cells #[.int .i64 0, .int .i64 0, .bool false, .slice none 0 0, .int .i64 0] 54)).heap.size := by rw [hsz]; omega
  have hnf : ¬ m.foot (w.heap.size + 1) := fun e => by have := (h.foot_lt e).2; omega
  have hc := mark_wide h1 (by omega)
  go_enter Try.func25, Try.ntmps25
  go_wp2_with fail
  refine hc.mono ?_
  rintro e w2 ⟨rfl, hx⟩
  clear hc
  have hb2 := hx.blk hb2
  go_wp2_with (refine wpList_store_box rfl 54 _ _ rfl (w.heap.size + 1) _ rfl rfl 54 _ hb2 (by kernel_rfl) rfl (by simp [Value.oneCell']) (fun w4 hb hg => ?_))
  obtain ⟨z1, z2, z3⟩ := ask_fin hE hsz h ((h1.ext hx).mono (Nat.le_succ _)) (Moved.of_ext hx) (rowI_nil _ _) hg
  exact bodyPost_ret (results_cell_row rfl _ _ _ _ _ _ _ rfl hb Try.underlying54 rfl (by kernel_rfl)) rfl ⟨m, none, 0, rfl, z1, z2, z3⟩
set_option maxRecDepth 100000 in
set_option maxHeartbeats 1000000 in
theorem asked9 {B N : Nat} {w : World} {m : Pm} {s : Pl} (h : PoolS B N w m s) (hN : N ≤ 99000) (hBw : B ≤ w.heap.size) (n t : Int) (MA : Option Addr) (ml mc : Nat) :
    Calls Try.prog 25 #[.pointer (some ⟨m.p, 0, none⟩), .agg #[.int .i64 9, .int .i64 n, .int .i64 t], .slice MA ml mc] w (AskP B (N + 1) w m (s.undoS n) ⟨0, 0, s.undoB n, [], 0⟩) := by
  have hE := (ext_alloc w (Obj.cells #[.int .i64 9, .int .i64 n, .int .i64 t] 33)).trans (ext_alloc (w.alloc (Obj.cells #[.int .i64 9, .int .i64 n, .int .i64 t] 33)) (Obj.cells #[.int .i64 0, .int .i64 0, .bool false, .slice none 0 0, .int .i64 0] 54))
  have hb1 := (ext_alloc (w.alloc (Obj.cells #[.int .i64 9, .int .i64 n, .int .i64 t] 33)) (Obj.cells #[.int .i64 0, .int .i64 0, .bool false, .slice none 0 0, .int .i64 0] 54)).blk (heap_alloc_new w (Obj.cells #[.int .i64 9, .int .i64 n, .int .i64 t] 33))
  have hb2 := heap_alloc_new (w.alloc (Obj.cells #[.int .i64 9, .int .i64 n, .int .i64 t] 33)) (Obj.cells #[.int .i64 0, .int .i64 0, .bool false, .slice none 0 0, .int .i64 0] 54)
  have hsz : ((w.alloc (Obj.cells #[.int .i64 9, .int .i64 n, .int .i64 t] 33)).alloc (Obj.cells #[.int .i64 0, .int .i64 0, .bool false, .slice none 0 0, .int .i64 0] 54)).heap.size = w.heap.size + 2 := by simp
  rw [show (w.alloc (Obj.cells #[.int .i64 9, .int .i64 n, .int .i64 t] 33)).heap.size = w.heap.size + 1 by simp] at hb2
  have h1 := h.ext hE
  have hB1 : B ≤ ((w.alloc (Obj.cells #[.int .i64 9, .int .i64 n, .int .i64 t] 33)).alloc (Obj.cells #[.int .i64 0, .int .i64 0, .bool false, .slice none 0 0, .int .i64 0] 54)).heap.size := by rw [hsz]; omega
  have hnf : ¬ m.foot (w.heap.size + 1) := fun e => by have := (h.foot_lt e).2; omega
  have hc := undo_any h1 (by omega) hB1 n
  go_enter Try.func25, Try.ntmps25
  go_wp2_with fail
  refine hc.mono ?_
  rintro e w2 ⟨m', rfl, q1, q2⟩
  clear hc
  have hb2 := q2.x.blk hb2 hnf
  go_wp2_with (refine wpList_store_box rfl 54 _ _ rfl (w.heap.size + 1) _ rfl rfl 54 _ hb2 (by kernel_rfl) rfl (by simp [Value.oneCell']) (fun w4 hb hg => ?_))
  obtain ⟨z1, z2, z3⟩ := ask_fin hE hsz h (q1.mono (Nat.le_succ _)) q2 (rowI_nil _ _) hg
  exact bodyPost_ret (results_cell_row rfl _ _ _ _ _ _ _ rfl hb Try.underlying54 rfl (by kernel_rfl)) rfl ⟨m', none, 0, rfl, z1, z2, z3⟩
set_option maxRecDepth 100000 in
set_option maxHeartbeats 1000000 in
theorem asked10 {B N : Nat} {w : World} {m : Pm} {s : Pl} (h : PoolS B N w m s) (hN : N ≤ 99000) (hBw : B ≤ w.heap.size) (n t : Int) (MA : Option Addr) (ml mc : Nat) :
    Calls Try.prog 25 #[.pointer (some ⟨m.p, 0, none⟩), .agg #[.int .i64 10, .int .i64 n, .int .i64 t], .slice MA ml mc] w (AskP B (N + 1) w m s.settleS Ans.nil) := by
  have hE := (ext_alloc w (Obj.cells #[.int .i64 10, .int .i64 n, .int .i64 t] 33)).trans (ext_alloc (w.alloc (Obj.cells #[.int .i64 10, .int .i64 n, .int .i64 t] 33)) (Obj.cells #[.int .i64 0, .int .i64 0, .bool false, .slice none 0 0, .int .i64 0] 54))
  have hb1 := (ext_alloc (w.alloc (Obj.cells #[.int .i64 10, .int .i64 n, .int .i64 t] 33)) (Obj.cells #[.int .i64 0, .int .i64 0, .bool false, .slice none 0 0, .int .i64 0] 54)).blk (heap_alloc_new w (Obj.cells #[.int .i64 10, .int .i64 n, .int .i64 t] 33))
  have hb2 := heap_alloc_new (w.alloc (Obj.cells #[.int .i64 10, .int .i64 n, .int .i64 t] 33)) (Obj.cells #[.int .i64 0, .int .i64 0, .bool false, .slice none 0 0, .int .i64 0] 54)
  have hsz : ((w.alloc (Obj.cells #[.int .i64 10, .int .i64 n, .int .i64 t] 33)).alloc (Obj.cells #[.int .i64 0, .int .i64 0, .bool false, .slice none 0 0, .int .i64 0] 54)).heap.size = w.heap.size + 2 := by simp
  rw [show (w.alloc (Obj.cells #[.int .i64 10, .int .i64 n, .int .i64 t] 33)).heap.size = w.heap.size + 1 by simp] at hb2
  have h1 := h.ext hE
  have hB1 : B ≤ ((w.alloc (Obj.cells #[.int .i64 10, .int .i64 n, .int .i64 t] 33)).alloc (Obj.cells #[.int .i64 0, .int .i64 0, .bool false, .slice none 0 0, .int .i64 0] 54)).heap.size := by rw [hsz]; omega
  have hnf : ¬ m.foot (w.heap.size + 1) := fun e => by have := (h.foot_lt e).2; omega
  have hc := settle_any h1 (by omega) hB1
  go_enter Try.func25, Try.ntmps25
  go_wp2_with fail
  refine hc.mono ?_
  rintro e w2 ⟨m', rfl, q1, q2⟩
  clear hc
  have hb2 := q2.x.blk hb2 hnf
  go_wp2_with (refine wpList_store_box rfl 54 _ _ rfl (w.heap.size + 1) _ rfl rfl 54 _ hb2 (by kernel_rfl) rfl (by simp [Value.oneCell']) (fun w4 hb hg => ?_))
  obtain ⟨z1, z2, z3⟩ := ask_fin hE hsz h (q1.mono (Nat.le_succ _)) q2 (rowI_nil _ _) hg
  exact bodyPost_ret (results_cell_row rfl _ _ _ _ _ _ _ rfl hb Try.underlying54 rfl (by kernel_rfl)) rfl ⟨m', none, 0, rfl, z1, z2, z3⟩
set_option maxRecDepth 100000 in
set_option maxHeartbeats 1000000 in
theorem asked11 {B N : Nat} {w : World} {m : Pm} {s : Pl} (h : PoolS B N w m s) (hN : N ≤ 99000) (hBw : B ≤ w.heap.size) (n t : Int) (MA : Option Addr) (ml mc : Nat) :
    Calls Try.prog 25 #[.pointer (some ⟨m.p, 0, none⟩), .agg #[.int .i64 11, .int .i64 n, .int .i64 t], .slice MA ml mc] w (AskP B (N + 1) w m s ⟨s.cnt.length, s.refs, false, [], 0⟩) := by
  have hE := (ext_alloc w (Obj.cells #[.int .i64 11, .int .i64 n, .int .i64 t] 33)).trans (ext_alloc (w.alloc (Obj.cells #[.int .i64 11, .int .i64 n, .int .i64 t] 33)) (Obj.cells #[.int .i64 0, .int .i64 0, .bool false, .slice none 0 0, .int .i64 0] 54))
  have hb1 := (ext_alloc (w.alloc (Obj.cells #[.int .i64 11, .int .i64 n, .int .i64 t] 33)) (Obj.cells #[.int .i64 0, .int .i64 0, .bool false, .slice none 0 0, .int .i64 0] 54)).blk (heap_alloc_new w (Obj.cells #[.int .i64 11, .int .i64 n, .int .i64 t] 33))
  have hb2 := heap_alloc_new (w.alloc (Obj.cells #[.int .i64 11, .int .i64 n, .int .i64 t] 33)) (Obj.cells #[.int .i64 0, .int .i64 0, .bool false, .slice none 0 0, .int .i64 0] 54)
  have hsz : ((w.alloc (Obj.cells #[.int .i64 11, .int .i64 n, .int .i64 t] 33)).alloc (Obj.cells #[.int .i64 0, .int .i64 0, .bool false, .slice none 0 0, .int .i64 0] 54)).heap.size = w.heap.size + 2 := by simp
  rw [show (w.alloc (Obj.cells #[.int .i64 11, .int .i64 n, .int .i64 t] 33)).heap.size = w.heap.size + 1 by simp] at hb2
  have h1 := h.ext hE
  have hB1 : B ≤ ((w.alloc (Obj.cells #[.int .i64 11, .int .i64 n, .int .i64 t] 33)).alloc (Obj.cells #[.int .i64 0, .int .i64 0, .bool false, .slice none 0 0, .int .i64 0] 54)).heap.size := by rw [hsz]; omega
  have hnf : ¬ m.foot (w.heap.size + 1) := fun e => by have := (h.foot_lt e).2; omega
  have hc := len_pool h1
  go_enter Try.func25, Try.ntmps25
  go_wp2_with fail
  refine hc.mono ?_
  rintro e w2 ⟨rfl, rfl⟩
  clear hc
  have hc := refs_pool h1
  go_wp2_with fail
  refine hc.mono ?_
  rintro e w2 ⟨rfl, rfl⟩
  clear hc
  go_wp2_with (refine wpList_store_box rfl 54 _ _ rfl (w.heap.size + 1) _ rfl rfl 54 _ hb2 (by kernel_rfl) rfl (by simp [Value.oneCell']) (fun w4 hb hg => ?_))
  obtain ⟨z1, z2, z3⟩ := ask_fin hE hsz h (h1.mono (Nat.le_succ _)) (Moved.refl _ _) (rowI_nil _ _) hg
  exact bodyPost_ret (results_cell_row rfl _ _ _ _ _ _ _ rfl hb Try.underlying54 rfl (by kernel_rfl)) rfl ⟨m, none, 0, rfl, z1, z2, z3⟩
set_option maxRecDepth 100000 in
set_option maxHeartbeats 1000000 in
theorem asked12 {B N : Nat} {w : World} {m : Pm} {s : Pl} (h : PoolS B N w m s) (hN : N ≤ 99000) (hBw : B ≤ w.heap.size) (k : Int) (hk : k < 0 ∨ 12 ≤ k) (n t : Int) {MA : Option Addr} {mc : Nat} {marks : List Int} (hx : NLi w MA mc marks) (hl : marks.length ≤ 100000) :
    Calls Try.prog 25 #[.pointer (some ⟨m.p, 0, none⟩), .agg #[.int .i64 k, .int .i64 n, .int .i64 t], .slice MA marks.length mc] w (AskP B (N + 1) w m (s.undoS (agoZ marks n)) ⟨0, 0, s.undoB (agoZ marks n), [], 0⟩) := by
  have hE := (ext_alloc w (Obj.cells #[.int .i64 k, .int .i64 n, .int .i64 t] 33)).trans (ext_alloc (w.alloc (Obj.cells #[.int .i64 k, .int .i64 n, .int .i64 t] 33)) (Obj.cells #[.int .i64 0, .int .i64 0, .bool false, .slice none 0 0, .int .i64 0] 54))
  have hb1 := (ext_alloc (w.alloc (Obj.cells #[.int .i64 k, .int .i64 n, .int .i64 t] 33)) (Obj.cells #[.int .i64 0, .int .i64 0, .bool false, .slice none 0 0, .int .i64 0] 54)).blk (heap_alloc_new w (Obj.cells #[.int .i64 k, .int .i64 n, .int .i64 t] 33))
  have hb2 := heap_alloc_new (w.alloc (Obj.cells #[.int .i64 k, .int .i64 n, .int .i64 t] 33)) (Obj.cells #[.int .i64 0, .int .i64 0, .bool false, .slice none 0 0, .int .i64 0] 54)
  have hsz : ((w.alloc (Obj.cells #[.int .i64 k, .int .i64 n, .int .i64 t] 33)).alloc (Obj.cells #[.int .i64 0, .int .i64 0, .bool false, .slice none 0 0, .int .i64 0] 54)).heap.size = w.heap.size + 2 := by simp
  rw [show (w.alloc (Obj.cells #[.int .i64 k, .int .i64 n, .int .i64 t] 33)).heap.size = w.heap.size + 1 by simp] at hb2
  have h1 := h.ext hE
  have hB1 : B ≤ ((w.alloc (Obj.cells #[.int .i64 k, .int .i64 n, .int .i64 t] 33)).alloc (Obj.cells #[.int .i64 0, .int .i64 0, .bool false, .slice none 0 0, .int .i64 0] 54)).heap.size := by rw [hsz]; omega
  have hnf : ¬ m.foot (w.heap.size + 1) := fun e => by have := (h.foot_lt e).2; omega
  have b0 : (k == 0) = false := by simp; omega
  have b1 : (k == 1) = false := by simp; omega
  have b2 : (k == 2) = false := by simp; omega
  have b3 : (k == 3) = false := by simp; omega
  have b4 : (k == 4) = false := by simp; omega
  have b5 : (k == 5) = false := by simp; omega
  have b6 : (k == 6) = false := by simp; omega
  have b7 : (k == 7) = false := by simp; omega
  have b8 : (k == 8) = false := by simp; omega
  have b9 : (k == 9) = false := by simp; omega
  have b10 : (k == 10) = false := by simp; omega
  have b11 : (k == 11) = false := by simp; omega
  have hc := ago_any (hx.ext hE) hl n
  go_enter Try.func25, Try.ntmps25
  go_wp2_with fail
  refine hc.mono ?_
  rintro e w2 ⟨rfl, rfl⟩
  clear hc
  have hc := undo_any h1 (by omega) hB1 (agoZ marks n)
  go_wp2_with fail
  refine hc.mono ?_
  rintro e w2 ⟨m', rfl, q1, q2⟩
  clear hc
  have hb2 := q2.x.blk hb2 hnf
  go_wp2_with (refine wpList_store_box rfl 54 _ _ rfl (w.heap.size + 1) _ rfl rfl 54 _ hb2 (by kernel_rfl) rfl (by simp [Value.oneCell']) (fun w4 hb hg => ?_))
  obtain ⟨z1, z2, z3⟩ := ask_fin hE hsz h (q1.mono (Nat.le_succ _)) q2 (rowI_nil _ _) hg
  exact bodyPost_ret (results_cell_row rfl _ _ _ _ _ _ _ rfl hb Try.underlying54 rfl (by kernel_rfl)) rfl ⟨m', none, 0, rfl, z1, z2, z3⟩
end Go.Proofs.Ytaalhicdeibodaa
