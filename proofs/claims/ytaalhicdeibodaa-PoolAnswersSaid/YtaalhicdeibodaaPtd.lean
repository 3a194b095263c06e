/- Layer 10: told (printed by mk_told.py). No condition but the sizes. -/
import Derived.Test.YtaalhicdeibodaaPat
namespace Go.Proofs.Ytaalhicdeibodaa
open Go.RowKit Go.Proofs Go.Shelf
set_option linter.unusedVariables false
/-- What a call leaves. -/
def TellP (B N : Nat) (w : World) (m : Rm) (s' : Pl) (a : Ans) (e : Ending) (w' : World) : Prop := ∃ m' A c, e = .returned (a.v A c) ∧ RefS B N w' m' s' ∧ RMoved m m' w w' ∧ RowI w.heap.size w' A c a.l
theorem tell_fin {B N : Nat} {w w1 w2 w4 : World} {m m' : Rm} {s s' : Pl} {A : Option Addr} {c : Nat} {l : List Int} {M : Nat} (hE : Ext w w1) (hsz : w1.heap.size = w.heap.size + 2) (hP : RefS B N w m s) (hP2 : RefS B M w2 m' s') (mv : RMoved m m' w1 w2) (hR : RowI (w.heap.size + 2) w2 A c l) (hg : w2.grownBy w4 (some (w.heap.size + 1))) :
    RefS B M w4 m' s' ∧ RMoved m m' w w4 ∧ RowI w.heap.size w4 A c l := by
  have hx : Exc (fun q _ => q = w.heap.size + 1) w2 w4 := Exc.of_only hg (fun _ _ => rfl)
  have hf : ∀ q, m'.foot q → q ≠ w.heap.size + 1 := fun q hq e => by
    rcases mv.foot q hq with h | h
    · have := (hP.foot_lt h).2
      omega
    · omega
  refine ⟨hP2.exc hx (fun q o hq e => hf q hq e), ⟨mv.p, ?_, fun q hq => ?_⟩, ?_⟩
  · have h12 := ((RMoved.of_ext (m := m) hE).trans mv).x
    refine ⟨hx.os.trans h12.os, hx.tape.trans h12.tape, hx.output.trans h12.output, Nat.le_trans h12.size hx.size, fun q o ho hn => ?_⟩
    exact hx.block q o (h12.block q o ho hn) (fun e => by have := (Array.getElem?_eq_some_iff.1 ho).1; omega)
  · rcases mv.foot q hq with h | h
    · exact .inl h
    · exact .inr (by omega)
  · refine own_mono (own_out hR hx (fun b o hb e => ?_)) (by omega)
    have := (own_blk hR hb).1
    omega
theorem rowI_cut {B : Nat} {w : World} {A : Option Addr} {c : Nat} {l : List Int} (h : RowI B w A c l) {k : Nat} (hk : k ≤ l.length) : RowI B w A c (l.take k) := by
  obtain ⟨t, ht⟩ : ∃ t, l.length = k + t := ⟨l.length - k, by omega⟩
  unfold RowI at h ⊢
  rw [ht] at h
  have h2 := own_prefix h
  rw [List.length_take, Nat.min_eq_left hk]
  rw [Nat.mul_one] at h2
  simpa [ic, List.map_take] using h2
set_option maxRecDepth 100000 in
set_option maxHeartbeats 1000000 in
theorem told0 {B N : Nat} {w : World} {m : Rm} {s : Pl} (h : RefS B N w m s) (hN : N ≤ 99000) (hBw : B ≤ w.heap.size) (n t : Int) (MA : Option Addr) (ml mc : Nat) :
    Calls Try.prog 26 #[.pointer (some ⟨m.p, 0, none⟩), .agg #[.int .i64 0, .int .i64 n, .int .i64 t], .slice MA ml mc] w (TellP B (N + 1) w m s.allocS ⟨lowF s.sts, 0, false, [], s.allocE⟩) := by
  have hE := (ext_alloc w (Obj.cells #[.int .i64 0, .int .i64 n, .int .i64 t] 33)).trans (ext_alloc (w.alloc (Obj.cells #[.int .i64 0, .int .i64 n, .int .i64 t] 33)) (Obj.cells #[.int .i64 0, .int .i64 0, .bool false, .slice none 0 0, .int .i64 0] 54))
  have hb1 := (ext_alloc (w.alloc (Obj.cells #[.int .i64 0, .int .i64 n, .int .i64 t] 33)) (Obj.cells #[.int .i64 0, .int .i64 0, .bool false, .slice none 0 0, .int .i64 0] 54)).blk (heap_alloc_new w (Obj.cells #[.int .i64 0, .int .i64 n, .int .i64 t] 33))
  have hb2 := heap_alloc_new (w.alloc (Obj.cells #[.int .i64 0, .int .i64 n, .int .i64 t] 33)) (Obj.cells #[.int .i64 0, .int .i64 0, .bool false, .slice none 0 0, .int .i64 0] 54)
  have hsz : ((w.alloc (Obj.cells #[.int .i64 0, .int .i64 n, .int .i64 t] 33)).alloc (Obj.cells #[.int .i64 0, .int .i64 0, .bool false, .slice none 0 0, .int .i64 0] 54)).heap.size = w.heap.size + 2 := by simp
  rw [show (w.alloc (Obj.cells #[.int .i64 0, .int .i64 n, .int .i64 t] 33)).heap.size = w.heap.size + 1 by simp] at hb2
  have h1 := h.ext hE
  have hB1 : B ≤ ((w.alloc (Obj.cells #[.int .i64 0, .int .i64 n, .int .i64 t] 33)).alloc (Obj.cells #[.int .i64 0, .int .i64 0, .bool false, .slice none 0 0, .int .i64 0] 54)).heap.size := by rw [hsz]; omega
  have hnf : ¬ m.foot (w.heap.size + 1) := fun e => by have := (h.foot_lt e).2; omega
  have hc := ralloc_any h1 (by omega) hB1
  go_enter Try.func26, Try.ntmps26
  go_wp2_with fail
  refine hc.mono ?_
  rintro e w2 ⟨m', rfl, q1, q2⟩
  clear hc
  have hb2 := q2.x.blk hb2 hnf
  go_wp2_with (refine wpList_store_box rfl 54 _ _ rfl (w.heap.size + 1) _ rfl rfl 54 _ hb2 (by kernel_rfl) rfl (by simp [Value.oneCell']) (fun w4 hb hg => ?_))
  obtain ⟨z1, z2, z3⟩ := tell_fin hE hsz h q1 q2 (rowI_nil _ _) hg
  exact bodyPost_ret (results_cell_row rfl _ _ _ _ _ _ _ rfl hb Try.underlying54 rfl (by kernel_rfl)) rfl ⟨m', none, 0, rfl, z1, z2, z3⟩
set_option maxRecDepth 100000 in
set_option maxHeartbeats 1000000 in
theorem told1 {B N : Nat} {w : World} {m : Rm} {s : Pl} (h : RefS B N w m s) (hN : N ≤ 99000) (hBw : B ≤ w.heap.size) (n t : Int) (MA : Option Addr) (ml mc : Nat) :
    Calls Try.prog 26 #[.pointer (some ⟨m.p, 0, none⟩), .agg #[.int .i64 1, .int .i64 n, .int .i64 t], .slice MA ml mc] w (TellP B (N + 1) w m (s.incS n) ⟨0, 0, false, [], s.incE n⟩) := by
  have hE := (ext_alloc w (Obj.cells #[.int .i64 1, .int .i64 n, .int .i64 t] 33)).trans (ext_alloc (w.alloc (Obj.cells #[.int .i64 1, .int .i64 n, .int .i64 t] 33)) (Obj.cells #[.int .i64 0, .int .i64 0, .bool false, .slice none 0 0, .int .i64 0] 54))
  have hb1 := (ext_alloc (w.alloc (Obj.cells #[.int .i64 1, .int .i64 n, .int .i64 t] 33)) (Obj.cells #[.int .i64 0, .int .i64 0, .bool false, .slice none 0 0, .int .i64 0] 54)).blk (heap_alloc_new w (Obj.cells #[.int .i64 1, .int .i64 n, .int .i64 t] 33))
  have hb2 := heap_alloc_new (w.alloc (Obj.cells #[.int .i64 1, .int .i64 n, .int .i64 t] 33)) (Obj.cells #[.int .i64 0, .int .i64 0, .bool false, .slice none 0 0, .int .i64 0] 54)
  have hsz : ((w.alloc (Obj.cells #[.int .i64 1, .int .i64 n, .int .i64 t] 33)).alloc (Obj.cells #[.int .i64 0, .int .i64 0, .bool false, .slice none 0 0, .int .i64 0] 54)).heap.size = w.heap.size + 2 := by simp
  rw [show (w.alloc (Obj.cells #[.int .i64 1, .int .i64 n, .int .i64 t] 33)).heap.size = w.heap.size + 1 by simp] at hb2
  have h1 := h.ext hE
  have hB1 : B ≤ ((w.alloc (Obj.cells #[.int .i64 1, .int .i64 n, .int .i64 t] 33)).alloc (Obj.cells #[.int .i64 0, .int .i64 0, .bool false, .slice none 0 0, .int .i64 0] 54)).heap.size := by rw [hsz]; omega
  have hnf : ¬ m.foot (w.heap.size + 1) := fun e => by have := (h.foot_lt e).2; omega
  have hc := rinc_any h1 (by omega) hB1 n
  go_enter Try.func26, Try.ntmps26
  go_wp2_with fail
  refine hc.mono ?_
  rintro e w2 ⟨m', rfl, q1, q2⟩
  clear hc
  have hb2 := q2.x.blk hb2 hnf
  go_wp2_with (refine wpList_store_box rfl 54 _ _ rfl (w.heap.size + 1) _ rfl rfl 54 _ hb2 (by kernel_rfl) rfl (by simp [Value.oneCell']) (fun w4 hb hg => ?_))
  obtain ⟨z1, z2, z3⟩ := tell_fin hE hsz h q1 q2 (rowI_nil _ _) hg
  exact bodyPost_ret (results_cell_row rfl _ _ _ _ _ _ _ rfl hb Try.underlying54 rfl (by kernel_rfl)) rfl ⟨m', none, 0, rfl, z1, z2, z3⟩
set_option maxRecDepth 100000 in
set_option maxHeartbeats 1000000 in
theorem told2 {B N : Nat} {w : World} {m : Rm} {s : Pl} (h : RefS B N w m s) (hN : N ≤ 99000) (hBw : B ≤ w.heap.size) (n t : Int) (MA : Option Addr) (ml mc : Nat) :
    Calls Try.prog 26 #[.pointer (some ⟨m.p, 0, none⟩), .agg #[.int .i64 2, .int .i64 n, .int .i64 t], .slice MA ml mc] w (TellP B (N + 1) w m (s.decS n) ⟨s.decN n, 0, false, [], s.decE n⟩) := by
  have hE := (ext_alloc w (Obj.cells #[.int .i64 2, .int .i64 n, .int .i64 t] 33)).trans (ext_alloc (w.alloc (Obj.cells #[.int .i64 2, .int .i64 n, .int .i64 t] 33)) (Obj.cells #[.int .i64 0, .int .i64 0, .bool false, .slice none 0 0, .int .i64 0] 54))
  have hb1 := (ext_alloc (w.alloc (Obj.cells #[.int .i64 2, .int .i64 n, .int .i64 t] 33)) (Obj.cells #[.int .i64 0, .int .i64 0, .bool false, .slice none 0 0, .int .i64 0] 54)).blk (heap_alloc_new w (Obj.cells #[.int .i64 2, .int .i64 n, .int .i64 t] 33))
  have hb2 := heap_alloc_new (w.alloc (Obj.cells #[.int .i64 2, .int .i64 n, .int .i64 t] 33)) (Obj.cells #[.int .i64 0, .int .i64 0, .bool false, .slice none 0 0, .int .i64 0] 54)
  have hsz : ((w.alloc (Obj.cells #[.int .i64 2, .int .i64 n, .int .i64 t] 33)).alloc (Obj.cells #[.int .i64 0, .int .i64 0, .bool false, .slice none 0 0, .int .i64 0] 54)).heap.size = w.heap.size + 2 := by simp
  rw [show (w.alloc (Obj.cells #[.int .i64 2, .int .i64 n, .int .i64 t] 33)).heap.size = w.heap.size + 1 by simp] at hb2
  have h1 := h.ext hE
  have hB1 : B ≤ ((w.alloc (Obj.cells #[.int .i64 2, .int .i64 n, .int .i64 t] 33)).alloc (Obj.cells #[.int .i64 0, .int .i64 0, .bool false, .slice none 0 0, .int .i64 0] 54)).heap.size := by rw [hsz]; omega
  have hnf : ¬ m.foot (w.heap.size + 1) := fun e => by have := (h.foot_lt e).2; omega
  have hc := rdec_any h1 (by omega) hB1 n
  go_enter Try.func26, Try.ntmps26
  go_wp2_with fail
  refine hc.mono ?_
  rintro e w2 ⟨m', rfl, q1, q2⟩
  clear hc
  have hb2 := q2.x.blk hb2 hnf
  go_wp2_with (refine wpList_store_box rfl 54 _ _ rfl (w.heap.size + 1) _ rfl rfl 54 _ hb2 (by kernel_rfl) rfl (by simp [Value.oneCell']) (fun w4 hb hg => ?_))
  obtain ⟨z1, z2, z3⟩ := tell_fin hE hsz h q1 q2 (rowI_nil _ _) hg
  exact bodyPost_ret (results_cell_row rfl _ _ _ _ _ _ _ rfl hb Try.underlying54 rfl (by kernel_rfl)) rfl ⟨m', none, 0, rfl, z1, z2, z3⟩
set_option maxRecDepth 100000 in
set_option maxHeartbeats 1000000 in
theorem told3 {B N : Nat} {w : World} {m : Rm} {s : Pl} (h : RefS B N w m s) (hN : N ≤ 99000) (hBw : B ≤ w.heap.size) (n t : Int) (MA : Option Addr) (ml mc : Nat) :
    Calls Try.prog 26 #[.pointer (some ⟨m.p, 0, none⟩), .agg #[.int .i64 3, .int .i64 n, .int .i64 t], .slice MA ml mc] w (TellP B (N + 1) w m s ⟨cntAt s.cnt n, 0, false, [], 0⟩) := by
  have hE := (ext_alloc w (Obj.cells #[.int .i64 3, .int .i64 n, .int .i64 t] 33)).trans (ext_alloc (w.alloc (Obj.cells #[.int .i64 3, .int .i64 n, .int .i64 t] 33)) (Obj.cells #[.int .i64 0, .int .i64 0, .bool false, .slice none 0 0, .int .i64 0] 54))
  have hb1 := (ext_alloc (w.alloc (Obj.cells #[.int .i64 3, .int .i64 n, .int .i64 t] 33)) (Obj.cells #[.int .i64 0, .int .i64 0, .bool false, .slice none 0 0, .int .i64 0] 54)).blk (heap_alloc_new w (Obj.cells #[.int .i64 3, .int .i64 n, .int .i64 t] 33))
  have hb2 := heap_alloc_new (w.alloc (Obj.cells #[.int .i64 3, .int .i64 n, .int .i64 t] 33)) (Obj.cells #[.int .i64 0, .int .i64 0, .bool false, .slice none 0 0, .int .i64 0] 54)
  have hsz : ((w.alloc (Obj.cells #[.int .i64 3, .int .i64 n, .int .i64 t] 33)).alloc (Obj.cells #[.int .i64 0, .int .i64 0, .bool false, .slice none 0 0, .int .i64 0] 54)).heap.size = w.heap.size + 2 := by simp
  rw [show (w.alloc (Obj.cells #[.int .i64 3, .int .i64 n, .int .i64 t] 33)).heap.size = w.heap.size + 1 by simp] at hb2
  have h1 := h.ext hE
  have hB1 : B ≤ ((w.alloc (Obj.cells #[.int .i64 3, .int .i64 n, .int .i64 t] 33)).alloc (Obj.cells #[.int .i64 0, .int .i64 0, .bool false, .slice none 0 0, .int .i64 0] 54)).heap.size := by rw [hsz]; omega
  have hnf : ¬ m.foot (w.heap.size + 1) := fun e => by have := (h.foot_lt e).2; omega
  have hc := rcount_any h1.mem h1.ok.len.2 n
  go_enter Try.func26, Try.ntmps26
  go_wp2_with fail
  refine hc.mono ?_
  rintro e w2 ⟨rfl, rfl⟩
  clear hc
  go_wp2_with (refine wpList_store_box rfl 54 _ _ rfl (w.heap.size + 1) _ rfl rfl 54 _ hb2 (by kernel_rfl) rfl (by simp [Value.oneCell']) (fun w4 hb hg => ?_))
  obtain ⟨z1, z2, z3⟩ := tell_fin hE hsz h (h1.mono (Nat.le_succ _)) (RMoved.refl _ _) (rowI_nil _ _) hg
  exact bodyPost_ret (results_cell_row rfl _ _ _ _ _ _ _ rfl hb Try.underlying54 rfl (by kernel_rfl)) rfl ⟨m, none, 0, rfl, z1, z2, z3⟩
set_option maxRecDepth 100000 in
set_option maxHeartbeats 1000000 in
theorem told4 {B N : Nat} {w : World} {m : Rm} {s : Pl} (h : RefS B N w m s) (hN : N ≤ 99000) (hBw : B ≤ w.heap.size) (n t : Int) (MA : Option Addr) (ml mc : Nat) :
    Calls Try.prog 26 #[.pointer (some ⟨m.p, 0, none⟩), .agg #[.int .i64 4, .int .i64 n, .int .i64 t], .slice MA ml mc] w (TellP B (N + 1) w m s ⟨stAt s.cnt s.last n, 0, false, [], 0⟩) := by
  have hE := (ext_alloc w (Obj.cells #[.int .i64 4, .int .i64 n, .int .i64 t] 33)).trans (ext_alloc (w.alloc (Obj.cells #[.int .i64 4, .int .i64 n, .int .i64 t] 33)) (Obj.cells #[.int .i64 0, .int .i64 0, .bool false, .slice none 0 0, .int .i64 0] 54))
  have hb1 := (ext_alloc (w.alloc (Obj.cells #[.int .i64 4, .int .i64 n, .int .i64 t] 33)) (Obj.cells #[.int .i64 0, .int .i64 0, .bool false, .slice none 0 0, .int .i64 0] 54)).blk (heap_alloc_new w (Obj.cells #[.int .i64 4, .int .i64 n, .int .i64 t] 33))
  have hb2 := heap_alloc_new (w.alloc (Obj.cells #[.int .i64 4, .int .i64 n, .int .i64 t] 33)) (Obj.cells #[.int .i64 0, .int .i64 0, .bool false, .slice none 0 0, .int .i64 0] 54)
  have hsz : ((w.alloc (Obj.cells #[.int .i64 4, .int .i64 n, .int .i64 t] 33)).alloc (Obj.cells #[.int .i64 0, .int .i64 0, .bool false, .slice none 0 0, .int .i64 0] 54)).heap.size = w.heap.size + 2 := by simp
  rw [show (w.alloc (Obj.cells #[.int .i64 4, .int .i64 n, .int .i64 t] 33)).heap.size = w.heap.size + 1 by simp] at hb2
  have h1 := h.ext hE
  have hB1 : B ≤ ((w.alloc (Obj.cells #[.int .i64 4, .int .i64 n, .int .i64 t] 33)).alloc (Obj.cells #[.int .i64 0, .int .i64 0, .bool false, .slice none 0 0, .int .i64 0] 54)).heap.size := by rw [hsz]; omega
  have hnf : ¬ m.foot (w.heap.size + 1) := fun e => by have := (h.foot_lt e).2; omega
  have hc := rstate_any h1.mem h1.ok.last h1.ok.len.2 (fun c hc => (h1.ok.cnt c hc).1) n
  go_enter Try.func26, Try.ntmps26
  go_wp2_with fail
  refine hc.mono ?_
  rintro e w2 ⟨rfl, rfl⟩
  clear hc
  go_wp2_with (refine wpList_store_box rfl 54 _ _ rfl (w.heap.size + 1) _ rfl rfl 54 _ hb2 (by kernel_rfl) rfl (by simp [Value.oneCell']) (fun w4 hb hg => ?_))
  obtain ⟨z1, z2, z3⟩ := tell_fin hE hsz h (h1.mono (Nat.le_succ _)) (RMoved.refl _ _) (rowI_nil _ _) hg
  exact bodyPost_ret (results_cell_row rfl _ _ _ _ _ _ _ rfl hb Try.underlying54 rfl (by kernel_rfl)) rfl ⟨m, none, 0, rfl, z1, z2, z3⟩
set_option maxRecDepth 100000 in
set_option maxHeartbeats 1000000 in
theorem told5 {B N : Nat} {w : World} {m : Rm} {s : Pl} (h : RefS B N w m s) (hN : N ≤ 99000) (hBw : B ≤ w.heap.size) (n t : Int) (MA : Option Addr) (ml mc : Nat) :
    Calls Try.prog 26 #[.pointer (some ⟨m.p, 0, none⟩), .agg #[.int .i64 5, .int .i64 n, .int .i64 t], .slice MA ml mc] w (TellP B (N + 1) w m s ⟨talOf s.sts n, 0, false, [], 0⟩) := by
  have hE := (ext_alloc w (Obj.cells #[.int .i64 5, .int .i64 n, .int .i64 t] 33)).trans (ext_alloc (w.alloc (Obj.cells #[.int .i64 5, .int .i64 n, .int .i64 t] 33)) (Obj.cells #[.int .i64 0, .int .i64 0, .bool false, .slice none 0 0, .int .i64 0] 54))
  have hb1 := (ext_alloc (w.alloc (Obj.cells #[.int .i64 5, .int .i64 n, .int .i64 t] 33)) (Obj.cells #[.int .i64 0, .int .i64 0, .bool false, .slice none 0 0, .int .i64 0] 54)).blk (heap_alloc_new w (Obj.cells #[.int .i64 5, .int .i64 n, .int .i64 t] 33))
  have hb2 := heap_alloc_new (w.alloc (Obj.cells #[.int .i64 5, .int .i64 n, .int .i64 t] 33)) (Obj.cells #[.int .i64 0, .int .i64 0, .bool false, .slice none 0 0, .int .i64 0] 54)
  have hsz : ((w.alloc (Obj.cells #[.int .i64 5, .int .i64 n, .int .i64 t] 33)).alloc (Obj.cells #[.int .i64 0, .int .i64 0, .bool false, .slice none 0 0, .int .i64 0] 54)).heap.size = w.heap.size + 2 := by simp
  rw [show (w.alloc (Obj.cells #[.int .i64 5, .int .i64 n, .int .i64 t] 33)).heap.size = w.heap.size + 1 by simp] at hb2
  have h1 := h.ext hE
  have hB1 : B ≤ ((w.alloc (Obj.cells #[.int .i64 5, .int .i64 n, .int .i64 t] 33)).alloc (Obj.cells #[.int .i64 0, .int .i64 0, .bool false, .slice none 0 0, .int .i64 0] 54)).heap.size := by rw [hsz]; omega
  have hnf : ¬ m.foot (w.heap.size + 1) := fun e => by have := (h.foot_lt e).2; omega
  have hc := rtally_any h1 n
  rw [← tal_pages h1.ok n] at hc
  go_enter Try.func26, Try.ntmps26
  go_wp2_with fail
  refine hc.mono ?_
  rintro e w2 ⟨rfl, hx⟩
  clear hc
  have hb2 := hx.blk hb2
  go_wp2_with (refine wpList_store_box rfl 54 _ _ rfl (w.heap.size + 1) _ rfl rfl 54 _ hb2 (by kernel_rfl) rfl (by simp [Value.oneCell']) (fun w4 hb hg => ?_))
  obtain ⟨z1, z2, z3⟩ := tell_fin hE hsz h ((h1.ext hx).mono (Nat.le_succ _)) (RMoved.of_ext hx) (rowI_nil _ _) hg
  exact bodyPost_ret (results_cell_row rfl _ _ _ _ _ _ _ rfl hb Try.underlying54 rfl (by kernel_rfl)) rfl ⟨m, none, 0, rfl, z1, z2, z3⟩
set_option maxRecDepth 100000 in
set_option maxHeartbeats 1000000 in
theorem told6a {B N : Nat} {w : World} {m : Rm} {s : Pl} (h : RefS B N w m s) (hN : N ≤ 99000) (hBw : B ≤ w.heap.size) (n t : Int) (t0 : t < 0) (MA : Option Addr) (ml mc : Nat) :
    Calls Try.prog 26 #[.pointer (some ⟨m.p, 0, none⟩), .agg #[.int .i64 6, .int .i64 n, .int .i64 t], .slice MA ml mc] w (TellP B (N + 1) w m s ⟨0, 0, false, s.pages n, 0⟩) := by
  have hE := (ext_alloc w (Obj.cells #[.int .i64 6, .int .i64 n, .int .i64 t] 33)).trans (ext_alloc (w.alloc (Obj.cells #[.int .i64 6, .int .i64 n, .int .i64 t] 33)) (Obj.cells #[.int .i64 0, .int .i64 0, .bool false, .slice none 0 0, .int .i64 0] 54))
  have hb1 := (ext_alloc (w.alloc (Obj.cells #[.int .i64 6, .int .i64 n, .int .i64 t] 33)) (Obj.cells #[.int .i64 0, .int .i64 0, .bool false, .slice none 0 0, .int .i64 0] 54)).blk (heap_alloc_new w (Obj.cells #[.int .i64 6, .int .i64 n, .int .i64 t] 33))
  have hb2 := heap_alloc_new (w.alloc (Obj.cells #[.int .i64 6, .int .i64 n, .int .i64 t] 33)) (Obj.cells #[.int .i64 0, .int .i64 0, .bool false, .slice none 0 0, .int .i64 0] 54)
  have hsz : ((w.alloc (Obj.cells #[.int .i64 6, .int .i64 n, .int .i64 t] 33)).alloc (Obj.cells #[.int .i64 0, .int .i64 0, .bool false, .slice none 0 0, .int .i64 0] 54)).heap.size = w.heap.size + 2 := by simp
  rw [show (w.alloc (Obj.cells #[.int .i64 6, .int .i64 n, .int .i64 t] 33)).heap.size = w.heap.size + 1 by simp] at hb2
  have h1 := h.ext hE
  have hB1 : B ≤ ((w.alloc (Obj.cells #[.int .i64 6, .int .i64 n, .int .i64 t] 33)).alloc (Obj.cells #[.int .i64 0, .int .i64 0, .bool false, .slice none 0 0, .int .i64 0] 54)).heap.size := by rw [hsz]; omega
  have hnf : ¬ m.foot (w.heap.size + 1) := fun e => by have := (h.foot_lt e).2; omega
  have hc := rpages_any h1 n
  go_enter Try.func26, Try.ntmps26
  go_wp2_with fail
  refine hc.mono ?_
  rintro e w2 ⟨A, c, rfl, hR, hx⟩
  clear hc
  have hb2 := hx.blk hb2
  rw [hsz] at hR
  have hb1 := hx.blk hb1
  have d2 := cell_of_row w2 w.heap.size 2 _ _ _ hb1
  simp only [List.getElem?_toArray, List.getElem?_cons_zero, List.getElem?_cons_succ] at d2
  have hle := hR.le.1
  have b0 : ¬ (0 : Int) ≤ t := by omega
  clear t0
  go_wp2_with (refine wpList_store_box rfl 54 _ _ rfl (w.heap.size + 1) _ rfl rfl 54 _ hb2 (by kernel_rfl) rfl (by simp [Value.oneCell']) (fun w4 hb hg => ?_))
  obtain ⟨z1, z2, z3⟩ := tell_fin hE hsz h ((h1.ext hx).mono (Nat.le_succ _)) (RMoved.of_ext hx) hR hg
  exact bodyPost_ret (results_cell_row rfl _ _ _ _ _ _ _ rfl hb Try.underlying54 rfl (by kernel_rfl)) rfl ⟨m, A, c, rfl, z1, z2, z3⟩
set_option maxRecDepth 100000 in
set_option maxHeartbeats 1000000 in
theorem told6b {B N : Nat} {w : World} {m : Rm} {s : Pl} (h : RefS B N w m s) (hN : N ≤ 99000) (hBw : B ≤ w.heap.size) (n : Int) (j : Nat) (t0 : j < (s.pages n).length) (MA : Option Addr) (ml mc : Nat) :
    Calls Try.prog 26 #[.pointer (some ⟨m.p, 0, none⟩), .agg #[.int .i64 6, .int .i64 n, .int .i64 (j : Int)], .slice MA ml mc] w (TellP B (N + 1) w m s ⟨0, 0, false, (s.pages n).take j, 0⟩) := by
  have hE := (ext_alloc w (Obj.cells #[.int .i64 6, .int .i64 n, .int .i64 (j : Int)] 33)).trans (ext_alloc (w.alloc (Obj.cells #[.int .i64 6, .int .i64 n, .int .i64 (j : Int)] 33)) (Obj.cells #[.int .i64 0, .int .i64 0, .bool false, .slice none 0 0, .int .i64 0] 54))
  have hb1 := (ext_alloc (w.alloc (Obj.cells #[.int .i64 6, .int .i64 n, .int .i64 (j : Int)] 33)) (Obj.cells #[.int .i64 0, .int .i64 0, .bool false, .slice none 0 0, .int .i64 0] 54)).blk (heap_alloc_new w (Obj.cells #[.int .i64 6, .int .i64 n, .int .i64 (j : Int)] 33))
  have hb2 := heap_alloc_new (w.alloc (Obj.cells #[.int .i64 6, .int .i64 n, .int .i64 (j : Int)] 33)) (Obj.cells #[.int .i64 0, .int .i64 0, .bool false, .slice none 0 0, .int .i64 0] 54)
  have hsz : ((w.alloc (Obj.cells #[.int .i64 6, .int .i64 n, .int .i64 (j : Int)] 33)).alloc (Obj.cells #[.int .i64 0, .int .i64 0, .bool false, .slice none 0 0, .int .i64 0] 54)).heap.size = w.heap.size + 2 := by simp
  rw [show (w.alloc (Obj.cells #[.int .i64 6, .int .i64 n, .int .i64 (j : Int)] 33)).heap.size = w.heap.size + 1 by simp] at hb2
  have h1 := h.ext hE
  have hB1 : B ≤ ((w.alloc (Obj.cells #[.int .i64 6, .int .i64 n, .int .i64 (j : Int)] 33)).alloc (Obj.cells #[.int .i64 0, .int .i64 0, .bool false, .slice none 0 0, .int .i64 0] 54)).heap.size := by rw [hsz]; omega
  have hnf : ¬ m.foot (w.heap.size + 1) := fun e => by have := (h.foot_lt e).2; omega
  have hc := rpages_any h1 n
  go_enter Try.func26, Try.ntmps26
  go_wp2_with fail
  refine hc.mono ?_
  rintro e w2 ⟨A, c, rfl, hR, hx⟩
  clear hc
  have hb2 := hx.blk hb2
  rw [hsz] at hR
  have hb1 := hx.blk hb1
  have d2 := cell_of_row w2 w.heap.size 2 _ _ _ hb1
  simp only [List.getElem?_toArray, List.getElem?_cons_zero, List.getElem?_cons_succ] at d2
  have hle := hR.le.1
  have hR2 := rowI_cut hR (k := j) (by omega)
  have hjl : ((s.pages n).take j).length = j := by rw [List.length_take]; omega
  obtain ⟨L, hL⟩ : ∃ L, (s.pages n).length = L := ⟨_, rfl⟩
  have b0 : (0 : Int) ≤ (j : Int) := by omega
  have b1 : (j : Int) < (L : Int) := by omega
  have b2 : j ≤ c := by omega
  have b3 : ¬ (j : Int) < 0 := by omega
  rw [hL] at hle
  unfold RowI at hR2
  rw [hjl] at hR2
  have HJL := Lib.hid hjl
  rw [hL]
  clear t0 hL hjl hR
  go_wp2_with (refine wpList_store_box rfl 54 _ _ rfl (w.heap.size + 1) _ rfl rfl 54 _ hb2 (by kernel_rfl) rfl (by simp [Value.oneCell']) (fun w4 hb hg => ?_))
  have hR3 : RowI (w.heap.size + 2) w2 A c ((s.pages n).take j) := by unfold RowI; rw [HJL.out]; exact hR2
  obtain ⟨z1, z2, z3⟩ := tell_fin hE hsz h ((h1.ext hx).mono (Nat.le_succ _)) (RMoved.of_ext hx) hR3 hg
  exact bodyPost_ret (results_cell_row rfl _ _ _ _ _ _ _ rfl hb Try.underlying54 rfl (by kernel_rfl)) rfl ⟨m, A, c, by unfold Ans.v; dsimp only; rw [HJL.out], z1, z2, z3⟩
set_option maxRecDepth 100000 in
set_option maxHeartbeats 1000000 in
theorem told6c {B N : Nat} {w : World} {m : Rm} {s : Pl} (h : RefS B N w m s) (hN : N ≤ 99000) (hBw : B ≤ w.heap.size) (n : Int) (j : Nat) (t0 : ¬ j < (s.pages n).length) (MA : Option Addr) (ml mc : Nat) :
    Calls Try.prog 26 #[.pointer (some ⟨m.p, 0, none⟩), .agg #[.int .i64 6, .int .i64 n, .int .i64 (j : Int)], .slice MA ml mc] w (TellP B (N + 1) w m s ⟨0, 0, false, s.pages n, 0⟩) := by
  have hE := (ext_alloc w (Obj.cells #[.int .i64 6, .int .i64 n, .int .i64 (j : Int)] 33)).trans (ext_alloc (w.alloc (Obj.cells #[.int .i64 6, .int .i64 n, .int .i64 (j : Int)] 33)) (Obj.cells #[.int .i64 0, .int .i64 0, .bool false, .slice none 0 0, .int .i64 0] 54))
  have hb1 := (ext_alloc (w.alloc (Obj.cells #[.int .i64 6, .int .i64 n, .int .i64 (j : Int)] 33)) (Obj.cells #[.int .i64 0, .int .i64 0, .bool false, .slice none 0 0, .int .i64 0] 54)).blk (heap_alloc_new w (Obj.cells #[.int .i64 6, .int .i64 n, .int .i64 (j : Int)] 33))
  have hb2 := heap_alloc_new (w.alloc (Obj.cells #[.int .i64 6, .int .i64 n, .int .i64 (j : Int)] 33)) (Obj.cells #[.int .i64 0, .int .i64 0, .bool false, .slice none 0 0, .int .i64 0] 54)
  have hsz : ((w.alloc (Obj.cells #[.int .i64 6, .int .i64 n, .int .i64 (j : Int)] 33)).alloc (Obj.cells #[.int .i64 0, .int .i64 0, .bool false, .slice none 0 0, .int .i64 0] 54)).heap.size = w.heap.size + 2 := by simp
  rw [show (w.alloc (Obj.cells #[.int .i64 6, .int .i64 n, .int .i64 (j : Int)] 33)).heap.size = w.heap.size + 1 by simp] at hb2
  have h1 := h.ext hE
  have hB1 : B ≤ ((w.alloc (Obj.cells #[.int .i64 6, .int .i64 n, .int .i64 (j : Int)] 33)).alloc (Obj.cells #[.int .i64 0, .int .i64 0, .bool false, .slice none 0 0, .int .i64 0] 54)).heap.size := by rw [hsz]; omega
  have hnf : ¬ m.foot (w.heap.size + 1) := fun e => by have := (h.foot_lt e).2; omega
  have hc := rpages_any h1 n
  go_enter Try.func26, Try.ntmps26
  go_wp2_with fail
  refine hc.mono ?_
  rintro e w2 ⟨A, c, rfl, hR, hx⟩
  clear hc
  have hb2 := hx.blk hb2
  rw [hsz] at hR
  have hb1 := hx.blk hb1
  have d2 := cell_of_row w2 w.heap.size 2 _ _ _ hb1
  simp only [List.getElem?_toArray, List.getElem?_cons_zero, List.getElem?_cons_succ] at d2
  have hle := hR.le.1
  have b0 : (0 : Int) ≤ (j : Int) := by omega
  have b1 : ¬ (j : Int) < ((s.pages n).length : Int) := by omega
  clear t0
  go_wp2_with (refine wpList_store_box rfl 54 _ _ rfl (w.heap.size + 1) _ rfl rfl 54 _ hb2 (by kernel_rfl) rfl (by simp [Value.oneCell']) (fun w4 hb hg => ?_))
  obtain ⟨z1, z2, z3⟩ := tell_fin hE hsz h ((h1.ext hx).mono (Nat.le_succ _)) (RMoved.of_ext hx) hR hg
  exact bodyPost_ret (results_cell_row rfl _ _ _ _ _ _ _ rfl hb Try.underlying54 rfl (by kernel_rfl)) rfl ⟨m, A, c, rfl, z1, z2, z3⟩
set_option maxRecDepth 100000 in
set_option maxHeartbeats 1000000 in
theorem told7 {B N : Nat} {w : World} {m : Rm} {s : Pl} (h : RefS B N w m s) (hN : N ≤ 99000) (hBw : B ≤ w.heap.size) (n t : Int) (MA : Option Addr) (ml mc : Nat) :
    Calls Try.prog 26 #[.pointer (some ⟨m.p, 0, none⟩), .agg #[.int .i64 7, .int .i64 n, .int .i64 t], .slice MA ml mc] w (TellP B (N + 1) w m s ⟨0, 0, false, s.cnt, 0⟩) := by
  have hE := (ext_alloc w (Obj.cells #[.int .i64 7, .int .i64 n, .int .i64 t] 33)).trans (ext_alloc (w.alloc (Obj.cells #[.int .i64 7, .int .i64 n, .int .i64 t] 33)) (Obj.cells #[.int .i64 0, .int .i64 0, .bool false, .slice none 0 0, .int .i64 0] 54))
  have hb1 := (ext_alloc (w.alloc (Obj.cells #[.int .i64 7, .int .i64 n, .int .i64 t] 33)) (Obj.cells #[.int .i64 0, .int .i64 0, .bool false, .slice none 0 0, .int .i64 0] 54)).blk (heap_alloc_new w (Obj.cells #[.int .i64 7, .int .i64 n, .int .i64 t] 33))
  have hb2 := heap_alloc_new (w.alloc (Obj.cells #[.int .i64 7, .int .i64 n, .int .i64 t] 33)) (Obj.cells #[.int .i64 0, .int .i64 0, .bool false, .slice none 0 0, .int .i64 0] 54)
  have hsz : ((w.alloc (Obj.cells #[.int .i64 7, .int .i64 n, .int .i64 t] 33)).alloc (Obj.cells #[.int .i64 0, .int .i64 0, .bool false, .slice none 0 0, .int .i64 0] 54)).heap.size = w.heap.size + 2 := by simp
  rw [show (w.alloc (Obj.cells #[.int .i64 7, .int .i64 n, .int .i64 t] 33)).heap.size = w.heap.size + 1 by simp] at hb2
  have h1 := h.ext hE
  have hB1 : B ≤ ((w.alloc (Obj.cells #[.int .i64 7, .int .i64 n, .int .i64 t] 33)).alloc (Obj.cells #[.int .i64 0, .int .i64 0, .bool false, .slice none 0 0, .int .i64 0] 54)).heap.size := by rw [hsz]; omega
  have hnf : ¬ m.foot (w.heap.size + 1) := fun e => by have := (h.foot_lt e).2; omega
  have hc := rcounts_any h1
  go_enter Try.func26, Try.ntmps26
  go_wp2_with fail
  refine hc.mono ?_
  rintro e w2 ⟨A, c, rfl, hR, hx⟩
  clear hc
  have hb2 := hx.blk hb2
  rw [hsz] at hR
  go_wp2_with (refine wpList_store_box rfl 54 _ _ rfl (w.heap.size + 1) _ rfl rfl 54 _ hb2 (by kernel_rfl) rfl (by simp [Value.oneCell']) (fun w4 hb hg => ?_))
  obtain ⟨z1, z2, z3⟩ := tell_fin hE hsz h ((h1.ext hx).mono (Nat.le_succ _)) (RMoved.of_ext hx) hR hg
  exact bodyPost_ret (results_cell_row rfl _ _ _ _ _ _ _ rfl hb Try.underlying54 rfl (by kernel_rfl)) rfl ⟨m, A, c, rfl, z1, z2, z3⟩
set_option maxRecDepth 100000 in
set_option maxHeartbeats 1000000 in
theorem told8 {B N : Nat} {w : World} {m : Rm} {s : Pl} (h : RefS B N w m s) (hN : N ≤ 99000) (hBw : B ≤ w.heap.size) (n t : Int) (MA : Option Addr) (ml mc : Nat) :
    Calls Try.prog 26 #[.pointer (some ⟨m.p, 0, none⟩), .agg #[.int .i64 8, .int .i64 n, .int .i64 t], .slice MA ml mc] w (TellP B (N + 1) w m s ⟨s.acts.length, 0, false, [], 0⟩) := by
  have hE := (ext_alloc w (Obj.cells #[.int .i64 8, .int .i64 n, .int .i64 t] 33)).trans (ext_alloc (w.alloc (Obj.cells #[.int .i64 8, .int .i64 n, .int .i64 t] 33)) (Obj.cells #[.int .i64 0, .int .i64 0, .bool false, .slice none 0 0, .int .i64 0] 54))
  have hb1 := (ext_alloc (w.alloc (Obj.cells #[.int .i64 8, .int .i64 n, .int .i64 t] 33)) (Obj.cells #[.int .i64 0, .int .i64 0, .bool false, .slice none 0 0, .int .i64 0] 54)).blk (heap_alloc_new w (Obj.cells #[.int .i64 8, .int .i64 n, .int .i64 t] 33))
  have hb2 := heap_alloc_new (w.alloc (Obj.cells #[.int .i64 8, .int .i64 n, .int .i64 t] 33)) (Obj.cells #[.int .i64 0, .int .i64 0, .bool false, .slice none 0 0, .int .i64 0] 54)
  have hsz : ((w.alloc (Obj.cells #[.int .i64 8, .int .i64 n, .int .i64 t] 33)).alloc (Obj.cells #[.int .i64 0, .int .i64 0, .bool false, .slice none 0 0, .int .i64 0] 54)).heap.size = w.heap.size + 2 := by simp
  rw [show (w.alloc (Obj.cells #[.int .i64 8, .int .i64 n, .int .i64 t] 33)).heap.size = w.heap.size + 1 by simp] at hb2
  have h1 := h.ext hE
  have hB1 : B ≤ ((w.alloc (Obj.cells #[.int .i64 8, .int .i64 n, .int .i64 t] 33)).alloc (Obj.cells #[.int .i64 0, .int .i64 0, .bool false, .slice none 0 0, .int .i64 0] 54)).heap.size := by rw [hsz]; omega
  have hnf : ¬ m.foot (w.heap.size + 1) := fun e => by have := (h.foot_lt e).2; omega
  have hc := rmark_any h1.mem
  go_enter Try.func26, Try.ntmps26
  go_wp2_with fail
  refine hc.mono ?_
  rintro e w2 ⟨rfl, rfl⟩
  clear hc
  go_wp2_with (refine wpList_store_box rfl 54 _ _ rfl (w.heap.size + 1) _ rfl rfl 54 _ hb2 (by kernel_rfl) rfl (by simp [Value.oneCell']) (fun w4 hb hg => ?_))
  obtain ⟨z1, z2, z3⟩ := tell_fin hE hsz h (h1.mono (Nat.le_succ _)) (RMoved.refl _ _) (rowI_nil _ _) hg
  exact bodyPost_ret (results_cell_row rfl _ _ _ _ _ _ _ rfl hb Try.underlying54 rfl (by kernel_rfl)) rfl ⟨m, none, 0, rfl, z1, z2, z3⟩
set_option maxRecDepth 100000 in
set_option maxHeartbeats 1000000 in
theorem told9 {B N : Nat} {w : World} {m : Rm} {s : Pl} (h : RefS B N w m s) (hN : N ≤ 99000) (hBw : B ≤ w.heap.size) (n t : Int) (MA : Option Addr) (ml mc : Nat) :
    Calls Try.prog 26 #[.pointer (some ⟨m.p, 0, none⟩), .agg #[.int .i64 9, .int .i64 n, .int .i64 t], .slice MA ml mc] w (TellP B (N + 1) w m (s.undoS n) ⟨0, 0, s.undoB n, [], 0⟩) := by
  have hE := (ext_alloc w (Obj.cells #[.int .i64 9, .int .i64 n, .int .i64 t] 33)).trans (ext_alloc (w.alloc (Obj.cells #[.int .i64 9, .int .i64 n, .int .i64 t] 33)) (Obj.cells #[.int .i64 0, .int .i64 0, .bool false, .slice none 0 0, .int .i64 0] 54))
  have hb1 := (ext_alloc (w.alloc (Obj.cells #[.int .i64 9, .int .i64 n, .int .i64 t] 33)) (Obj.cells #[.int .i64 0, .int .i64 0, .bool false, .slice none 0 0, .int .i64 0] 54)).blk (heap_alloc_new w (Obj.cells #[.int .i64 9, .int .i64 n, .int .i64 t] 33))
  have hb2 := heap_alloc_new (w.alloc (Obj.cells #[.int .i64 9, .int .i64 n, .int .i64 t] 33)) (Obj.cells #[.int .i64 0, .int .i64 0, .bool false, .slice none 0 0, .int .i64 0] 54)
  have hsz : ((w.alloc (Obj.cells #[.int .i64 9, .int .i64 n, .int .i64 t] 33)).alloc (Obj.cells #[.int .i64 0, .int .i64 0, .bool false, .slice none 0 0, .int .i64 0] 54)).heap.size = w.heap.size + 2 := by simp
  rw [show (w.alloc (Obj.cells #[.int .i64 9, .int .i64 n, .int .i64 t] 33)).heap.size = w.heap.size + 1 by simp] at hb2
  have h1 := h.ext hE
  have hB1 : B ≤ ((w.alloc (Obj.cells #[.int .i64 9, .int .i64 n, .int .i64 t] 33)).alloc (Obj.cells #[.int .i64 0, .int .i64 0, .bool false, .slice none 0 0, .int .i64 0] 54)).heap.size := by rw [hsz]; omega
  have hnf : ¬ m.foot (w.heap.size + 1) := fun e => by have := (h.foot_lt e).2; omega
  have hc := rundo_any h1 (by omega) hB1 n
  go_enter Try.func26, Try.ntmps26
  go_wp2_with fail
  refine hc.mono ?_
  rintro e w2 ⟨m', rfl, q1, q2⟩
  clear hc
  have hb2 := q2.x.blk hb2 hnf
  go_wp2_with (refine wpList_store_box rfl 54 _ _ rfl (w.heap.size + 1) _ rfl rfl 54 _ hb2 (by kernel_rfl) rfl (by simp [Value.oneCell']) (fun w4 hb hg => ?_))
  obtain ⟨z1, z2, z3⟩ := tell_fin hE hsz h (q1.mono (Nat.le_succ _)) q2 (rowI_nil _ _) hg
  exact bodyPost_ret (results_cell_row rfl _ _ _ _ _ _ _ rfl hb Try.underlying54 rfl (by kernel_rfl)) rfl ⟨m', none, 0, rfl, z1, z2, z3⟩
set_option maxRecDepth 100000 in
set_option maxHeartbeats 1000000 in
theorem told10 {B N : Nat} {w : World} {m : Rm} {s : Pl} (h : RefS B N w m s) (hN : N ≤ 99000) (hBw : B ≤ w.heap.size) (n t : Int) (MA : Option Addr) (ml mc : Nat) :
    Calls Try.prog 26 #[.pointer (some ⟨m.p, 0, none⟩), .agg #[.int .i64 10, .int .i64 n, .int .i64 t], .slice MA ml mc] w (TellP B (N + 1) w m s.settleS Ans.nil) := by
  have hE := (ext_alloc w (Obj.cells #[.int .i64 10, .int .i64 n, .int .i64 t] 33)).trans (ext_alloc (w.alloc (Obj.cells #[.int .i64 10, .int .i64 n, .int .i64 t] 33)) (Obj.cells #[.int .i64 0, .int .i64 0, .bool false, .slice none 0 0, .int .i64 0] 54))
  have hb1 := (ext_alloc (w.alloc (Obj.cells #[.int .i64 10, .int .i64 n, .int .i64 t] 33)) (Obj.cells #[.int .i64 0, .int .i64 0, .bool false, .slice none 0 0, .int .i64 0] 54)).blk (heap_alloc_new w (Obj.cells #[.int .i64 10, .int .i64 n, .int .i64 t] 33))
  have hb2 := heap_alloc_new (w.alloc (Obj.cells #[.int .i64 10, .int .i64 n, .int .i64 t] 33)) (Obj.cells #[.int .i64 0, .int .i64 0, .bool false, .slice none 0 0, .int .i64 0] 54)
  have hsz : ((w.alloc (Obj.cells #[.int .i64 10, .int .i64 n, .int .i64 t] 33)).alloc (Obj.cells #[.int .i64 0, .int .i64 0, .bool false, .slice none 0 0, .int .i64 0] 54)).heap.size = w.heap.size + 2 := by simp
  rw [show (w.alloc (Obj.cells #[.int .i64 10, .int .i64 n, .int .i64 t] 33)).heap.size = w.heap.size + 1 by simp] at hb2
  have h1 := h.ext hE
  have hB1 : B ≤ ((w.alloc (Obj.cells #[.int .i64 10, .int .i64 n, .int .i64 t] 33)).alloc (Obj.cells #[.int .i64 0, .int .i64 0, .bool false, .slice none 0 0, .int .i64 0] 54)).heap.size := by rw [hsz]; omega
  have hnf : ¬ m.foot (w.heap.size + 1) := fun e => by have := (h.foot_lt e).2; omega
  have hc := rsettle_any h1 (by omega) hB1
  go_enter Try.func26, Try.ntmps26
  go_wp2_with fail
  refine hc.mono ?_
  rintro e w2 ⟨rfl, q1, q2⟩
  clear hc
  have hb2 := q2.x.blk hb2 hnf
  go_wp2_with (refine wpList_store_box rfl 54 _ _ rfl (w.heap.size + 1) _ rfl rfl 54 _ hb2 (by kernel_rfl) rfl (by simp [Value.oneCell']) (fun w4 hb hg => ?_))
  obtain ⟨z1, z2, z3⟩ := tell_fin hE hsz h (q1.mono (Nat.le_succ _)) q2 (rowI_nil _ _) hg
  exact bodyPost_ret (results_cell_row rfl _ _ _ _ _ _ _ rfl hb Try.underlying54 rfl (by kernel_rfl)) rfl ⟨m, none, 0, rfl, z1, z2, z3⟩
set_option maxRecDepth 100000 in
set_option maxHeartbeats 1000000 in
theorem told11 {B N : Nat} {w : World} {m : Rm} {s : Pl} (h : RefS B N w m s) (hN : N ≤ 99000) (hBw : B ≤ w.heap.size) (n t : Int) (MA : Option Addr) (ml mc : Nat) :
    Calls Try.prog 26 #[.pointer (some ⟨m.p, 0, none⟩), .agg #[.int .i64 11, .int .i64 n, .int .i64 t], .slice MA ml mc] w (TellP B (N + 1) w m s ⟨s.cnt.length, s.refs, false, [], 0⟩) := by
  have hE := (ext_alloc w (Obj.cells #[.int .i64 11, .int .i64 n, .int .i64 t] 33)).trans (ext_alloc (w.alloc (Obj.cells #[.int .i64 11, .int .i64 n, .int .i64 t] 33)) (Obj.cells #[.int .i64 0, .int .i64 0, .bool false, .slice none 0 0, .int .i64 0] 54))
  have hb1 := (ext_alloc (w.alloc (Obj.cells #[.int .i64 11, .int .i64 n, .int .i64 t] 33)) (Obj.cells #[.int .i64 0, .int .i64 0, .bool false, .slice none 0 0, .int .i64 0] 54)).blk (heap_alloc_new w (Obj.cells #[.int .i64 11, .int .i64 n, .int .i64 t] 33))
  have hb2 := heap_alloc_new (w.alloc (Obj.cells #[.int .i64 11, .int .i64 n, .int .i64 t] 33)) (Obj.cells #[.int .i64 0, .int .i64 0, .bool false, .slice none 0 0, .int .i64 0] 54)
  have hsz : ((w.alloc (Obj.cells #[.int .i64 11, .int .i64 n, .int .i64 t] 33)).alloc (Obj.cells #[.int .i64 0, .int .i64 0, .bool false, .slice none 0 0, .int .i64 0] 54)).heap.size = w.heap.size + 2 := by simp
  rw [show (w.alloc (Obj.cells #[.int .i64 11, .int .i64 n, .int .i64 t] 33)).heap.size = w.heap.size + 1 by simp] at hb2
  have h1 := h.ext hE
  have hB1 : B ≤ ((w.alloc (Obj.cells #[.int .i64 11, .int .i64 n, .int .i64 t] 33)).alloc (Obj.cells #[.int .i64 0, .int .i64 0, .bool false, .slice none 0 0, .int .i64 0] 54)).heap.size := by rw [hsz]; omega
  have hnf : ¬ m.foot (w.heap.size + 1) := fun e => by have := (h.foot_lt e).2; omega
  have hc := rlen_any h1.mem
  go_enter Try.func26, Try.ntmps26
  go_wp2_with fail
  refine hc.mono ?_
  rintro e w2 ⟨rfl, rfl⟩
  clear hc
  have hc := rrefs_any h1.mem
  go_wp2_with fail
  refine hc.mono ?_
  rintro e w2 ⟨rfl, rfl⟩
  clear hc
  go_wp2_with (refine wpList_store_box rfl 54 _ _ rfl (w.heap.size + 1) _ rfl rfl 54 _ hb2 (by kernel_rfl) rfl (by simp [Value.oneCell']) (fun w4 hb hg => ?_))
  obtain ⟨z1, z2, z3⟩ := tell_fin hE hsz h (h1.mono (Nat.le_succ _)) (RMoved.refl _ _) (rowI_nil _ _) hg
  exact bodyPost_ret (results_cell_row rfl _ _ _ _ _ _ _ rfl hb Try.underlying54 rfl (by kernel_rfl)) rfl ⟨m, none, 0, rfl, z1, z2, z3⟩
set_option maxRecDepth 100000 in
set_option maxHeartbeats 1000000 in
theorem told12 {B N : Nat} {w : World} {m : Rm} {s : Pl} (h : RefS B N w m s) (hN : N ≤ 99000) (hBw : B ≤ w.heap.size) (k : Int) (hk : k < 0 ∨ 12 ≤ k) (n t : Int) {MA : Option Addr} {mc : Nat} {marks : List Int} (hx : NLi w MA mc marks) (hl : marks.length ≤ 100000) :
    Calls Try.prog 26 #[.pointer (some ⟨m.p, 0, none⟩), .agg #[.int .i64 k, .int .i64 n, .int .i64 t], .slice MA marks.length mc] w (TellP B (N + 1) w m (s.undoS (agoZ marks n)) ⟨0, 0, s.undoB (agoZ marks n), [], 0⟩) := by
  have hE := (ext_alloc w (Obj.cells #[.int .i64 k, .int .i64 n, .int .i64 t] 33)).trans (ext_alloc (w.alloc (Obj.cells #[.int .i64 k, .int .i64 n, .int .i64 t] 33)) (Obj.cells #[.int .i64 0, .int .i64 0, .bool false, .slice none 0 0, .int .i64 0] 54))
  have hb1 := (ext_alloc (w.alloc (Obj.cells #[.int .i64 k, .int .i64 n, .int .i64 t] 33)) (Obj.cells #[.int .i64 0, .int .i64 0, .bool false, .slice none 0 0, .int .i64 0] 54)).blk (heap_alloc_new w (Obj.cells #[.int .i64 k, .int .i64 n, .int .i64 t] 33))
  have hb2 := heap_alloc_new (w.alloc (Obj.cells #[.int .i64 k, .int .i64 n, .int .i64 t] 33)) (Obj.cells #[.int .i64 0, .int .i64 0, .bool false, .slice none 0 0, .int .i64 0] 54)
  have hsz : ((w.alloc (Obj.cells #[.int .i64 k, .int .i64 n, .int .i64 t] 33)).alloc (Obj.cells #[.int .i64 0, .int .i64 0, .bool false, .slice none 0 0, .int .i64 0] 54)).heap.size = w.heap.size + 2 := by simp
  rw [show (w.alloc (Obj.cells #[.int .i64 k, .int .i64 n, .int .i64 t] 33)).heap.size = w.heap.size + 1 by simp] at hb2
  have h1 := h.ext hE
  have hB1 : B ≤ ((w.alloc (Obj.cells #[.int .i64 k, .int .i64 n, .int .i64 t] 33)).alloc (Obj.cells #[.int .i64 0, .int .i64 0, .bool false, .slice none 0 0, .int .i64 0] 54)).heap.size := by rw [hsz]; omega
  have hnf : ¬ m.foot (w.heap.size + 1) := fun e => by have := (h.foot_lt e).2; omega
  have b0 : (k == 0) = false := by simp; omega
  have b1 : (k == 1) = false := by simp; omega
  have b2 : (k == 2) = false := by simp; omega
  have b3 : (k == 3) = false := by simp; omega
  have b4 : (k == 4) = false := by simp; omega
  have b5 : (k == 5) = false := by simp; omega
  have b6 : (k == 6) = false := by simp; omega
  have b7 : (k == 7) = false := by simp; omega
  have b8 : (k == 8) = false := by simp; omega
  have b9 : (k == 9) = false := by simp; omega
  have b10 : (k == 10) = false := by simp; omega
  have b11 : (k == 11) = false := by simp; omega
  have hc := ago_any (hx.ext hE) hl n
  go_enter Try.func26, Try.ntmps26
  go_wp2_with fail
  refine hc.mono ?_
  rintro e w2 ⟨rfl, rfl⟩
  clear hc
  have hc := rundo_any h1 (by omega) hB1 (agoZ marks n)
  go_wp2_with fail
  refine hc.mono ?_
  rintro e w2 ⟨m', rfl, q1, q2⟩
  clear hc
  have hb2 := q2.x.blk hb2 hnf
  go_wp2_with (refine wpList_store_box rfl 54 _ _ rfl (w.heap.size + 1) _ rfl rfl 54 _ hb2 (by kernel_rfl) rfl (by simp [Value.oneCell']) (fun w4 hb hg => ?_))
  obtain ⟨z1, z2, z3⟩ := tell_fin hE hsz h (q1.mono (Nat.le_succ _)) q2 (rowI_nil _ _) hg
  exact bodyPost_ret (results_cell_row rfl _ _ _ _ _ _ _ rfl hb Try.underlying54 rfl (by kernel_rfl)) rfl ⟨m', none, 0, rfl, z1, z2, z3⟩
end Go.Proofs.Ytaalhicdeibodaa
