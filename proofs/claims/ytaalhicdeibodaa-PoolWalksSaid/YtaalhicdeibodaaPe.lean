/- Layer 10: Alloc, Inc, Dec, Undo. No condition but the sizes. -/
import Derived.Test.YtaalhicdeibodaaPd
namespace Go.Proofs.Ytaalhicdeibodaa
open Go.RowKit Go.Proofs Go.Shelf
set_option linter.unusedVariables false
attribute [local go_sem] Oper.semAt_some
/-- A pool in memory. -/
structure PoolS (B N : Nat) (w : World) (m : Pm) (s : Pl) : Prop where
  ok : s.Ok N
  mem : PoolC B w m s.refs s.cnt s.last (s.acts.drop s.floor) s.floor
section
variable {B N : Nat} {w : World} {m : Pm} {s : Pl}
theorem PoolS.ext {w' : World} (h : PoolS B N w m s) (hx : Ext w w') : PoolS B N w' m s := ⟨h.ok, h.mem.ext hx⟩
theorem PoolS.exc {D : Nat → Obj → Prop} {w' : World} (h : PoolS B N w m s) (hx : Exc D w w') (hd : ∀ q o, m.foot q → ¬ D q o) : PoolS B N w' m s := ⟨h.ok, h.mem.exc hx hd⟩
theorem PoolS.foot_lt (h : PoolS B N w m s) {q : Nat} (hq : m.foot q) : B ≤ q ∧ q < w.heap.size := h.mem.foot_lt hq
theorem PoolS.mono {M : Nat} (h : PoolS B N w m s) (hm : N ≤ M) : PoolS B M w m s := ⟨h.ok.mono hm, h.mem⟩
/-- Pools whose blocks are others stay apart. -/
theorem Moved.apart {m m' k : Pm} {w w' : World} (h : Moved m m' w w') (hk : ∀ q, k.foot q → q < w.heap.size) (ha : ∀ q, m.foot q → ¬ k.foot q) : ∀ q, m'.foot q → ¬ k.foot q := fun q hq hq2 => by
  rcases h.foot q hq with e | e
  · exact ha q e hq2
  · have := hk q hq2
    omega
theorem act_pool (h : PoolS B N w m s) {n b : Int} (h1 : 1 ≤ n) (h2 : n ≤ s.cnt.length) (hb : b = 1 ∨ b = -1) (hc : 0 ≤ s.cnt.getD (n - 1).toNat 0 + b ∧ s.cnt.getD (n - 1).toNat 0 + b ≤ s.refs) (hN : N ≤ 100000) (hBw : B ≤ w.heap.size) :
    Calls Try.prog 39 #[.pointer (some ⟨m.p, 0, none⟩), .int .i64 n, .int .i64 b] w fun e w' => ∃ m', e = .returned (.tuple #[]) ∧ PoolS B (N + 1) w' m' (s.act n b) ∧ Moved m m' w w' := by
  have hok := h.ok
  have hac := hok.acts
  have hfl := hok.floor
  have hr := hok.refs
  have hcb := cnt_at hok.cnt (by omega) (n - 1).toNat
  refine (act_any h.mem hok.last hok.len.2 h1 h2 (by omega) ⟨hcb.1, by omega⟩ hBw (by rw [List.length_drop]; omega)).mono ?_
  rintro e w' ⟨m', rfl, hC, hmv⟩
  refine ⟨m', rfl, ⟨hok.act h1 h2 hb hc, ?_⟩, hmv⟩
  show PoolC B w' m' s.refs (bump s.cnt n b) s.last ((s.acts ++ [(n, b)]).drop s.floor) s.floor
  rw [List.drop_append_of_le_length hfl]
  exact hC
theorem alloc_any (h : PoolS B N w m s) (hN : N ≤ 100000) (hBw : B ≤ w.heap.size) :
    Calls Try.prog 23 #[.pointer (some ⟨m.p, 0, none⟩)] w fun e w' => ∃ m', e = .returned (.tuple #[.int .i64 (lowF s.sts), .int .i64 s.allocE]) ∧ PoolS B (N + 1) w' m' s.allocS ∧ Moved m m' w w' := by
  have hok := h.ok
  obtain ⟨L, hM, hF⟩ := h.mem
  have c3 : w.cell? ⟨m.p, 3, none⟩ = some (.pointer (some ⟨m.fp, 0, none⟩)) := hM.c 3
  have hlo := lowest_anyi hM.fr (by have := free_len hF; have := sts_len hok.last; have := hok.len.2; omega)
  obtain ⟨hl1, hl2⟩ := free_low hF
  have hS0 : L = [] → s.allocS = s ∧ s.allocE = 12 ∧ lowF s.sts = 0 := fun e => by
    have e0 : lowF s.sts = 0 := hl2.1 e
    exact ⟨if_pos e0, if_pos e0, e0⟩
  have hS1 : ¬ L = [] → s.allocS = s.act (lowF s.sts) 1 ∧ s.allocE = 0 ∧ ((1 ≤ lowF s.sts ∧ lowF s.sts ≤ s.cnt.length) ∧ s.cnt.getD (lowF s.sts - 1).toNat 0 = 0) := fun e => by
    have e0 : ¬ lowF s.sts = 0 := fun h => e (hl2.2 h)
    have hw := hok.low e0
    exact ⟨if_neg e0, if_neg e0, hw.1, hw.2.1⟩
  have hl1' : lowF s.sts = (lowL L).1 := hl1
  obtain ⟨z, hz⟩ : ∃ z, lowF s.sts = z := ⟨_, rfl⟩
  rw [hz] at hS0 hS1 hl1' ⊢
  have hb : (lowL L).2 = !decide (L = []) := by cases L <;> rfl
  rw [← hl1', hb] at hlo
  clear hl1 hl1' hl2 hz
  by_cases e : L = []
  · obtain ⟨a1, a2, hz0⟩ := hS0 e
    rw [a1, a2]
    subst hz0
    rw [decide_eq_true e] at hlo
    go_enter Try.func23, Try.ntmps23
    go_wp2_with fail
    refine hlo.mono ?_
    rintro e w2 ⟨rfl, rfl⟩
    go_wp2
    refine bodyPost_ret (results_tmp2 rfl _ _ _) rfl ?_
    exact ⟨m, rfl, h.mono (Nat.le_succ _), Moved.refl _ _⟩
  · obtain ⟨a1, a2, ⟨a3, a4⟩, a5⟩ := hS1 e
    rw [a1, a2]
    rw [decide_eq_false e] at hlo
    have hact := act_pool h a3 a4 (.inl rfl) (by have := hok.refs; rw [a5]; omega) hN hBw
    go_enter Try.func23, Try.ntmps23
    go_wp2_with fail
    refine hlo.mono ?_
    rintro e w2 ⟨rfl, rfl⟩
    go_wp2_with fail
    refine hact.mono ?_
    rintro e w2 ⟨m', rfl, h2, h3⟩
    go_wp2
    refine bodyPost_ret (results_tmp2 rfl _ _ _) rfl ?_
    exact ⟨m', rfl, h2, h3⟩
theorem inc_any (h : PoolS B N w m s) (hN : N ≤ 100000) (hBw : B ≤ w.heap.size) (n : Int) :
    Calls Try.prog 16 #[.pointer (some ⟨m.p, 0, none⟩), .int .i64 n] w fun e w' => ∃ m', e = .returned (.int .i64 (s.incE n)) ∧ PoolS B (N + 1) w' m' (s.incS n) ∧ Moved m m' w w' := by
  have hok := h.ok
  obtain ⟨L, hM, hF⟩ := h.mem
  have c0 : w.cell? ⟨m.p, 0, none⟩ = some (.int .i64 s.refs) := hM.c 0
  have hcn := count_any hM hok.len.2 n
  have hcb := cntAt_bd hok n
  have hr := hok.refs
  unfold Pl.incS Pl.incE
  by_cases e0 : cntAt s.cnt n = 0
  · rw [if_pos e0, if_neg (by decide)]
    rw [e0] at hcn
    clear e0
    go_enter Try.func16, Try.ntmps16
    go_wp2_with fail
    refine hcn.mono ?_
    rintro e w2 ⟨rfl, rfl⟩
    go_wp2
    go_ret
    exact ⟨m, rfl, h.mono (Nat.le_succ _), Moved.refl _ _⟩
  · by_cases e1 : cntAt s.cnt n = s.refs
    · rw [if_neg e0, if_pos e1, if_neg (by decide)]
      rw [e1] at hcn e0
      clear e1
      go_enter Try.func16, Try.ntmps16
      go_wp2_with fail
      refine hcn.mono ?_
      rintro e w2 ⟨rfl, rfl⟩
      go_wp2
      go_ret
      exact ⟨m, rfl, h.mono (Nat.le_succ _), Moved.refl _ _⟩
    · rw [if_neg e0, if_neg e1, if_pos rfl]
      obtain ⟨a, b, c⟩ := cntAt_in e0
      have hact := act_pool h a b (.inl rfl) (by omega) hN hBw
      generalize cntAt s.cnt n = z at *
      clear c
      go_enter Try.func16, Try.ntmps16
      go_wp2_with fail
      refine hcn.mono ?_
      rintro e w2 ⟨rfl, rfl⟩
      go_wp2_with fail
      refine hact.mono ?_
      rintro e w2 ⟨m', rfl, h2, h3⟩
      go_wp2
      go_ret
      exact ⟨m', rfl, h2, h3⟩
theorem dec_any (h : PoolS B N w m s) (hN : N ≤ 100000) (hBw : B ≤ w.heap.size) (n : Int) :
    Calls Try.prog 20 #[.pointer (some ⟨m.p, 0, none⟩), .int .i64 n] w fun e w' => ∃ m', e = .returned (.tuple #[.int .i64 (s.decN n), .int .i64 (s.decE n)]) ∧ PoolS B (N + 1) w' m' (s.decS n) ∧ Moved m m' w w' := by
  have hok := h.ok
  obtain ⟨L, hM, hF⟩ := h.mem
  have hcn := count_any hM hok.len.2 n
  have hcb := cntAt_bd hok n
  unfold Pl.decN Pl.decS Pl.decE
  by_cases e0 : cntAt s.cnt n = 0
  · rw [if_pos e0, if_pos e0]
    rw [e0] at hcn ⊢
    clear e0
    go_enter Try.func20, Try.ntmps20
    go_wp2_with fail
    refine hcn.mono ?_
    rintro e w2 ⟨rfl, rfl⟩
    go_wp2
    refine bodyPost_ret (results_tmp2 rfl _ _ _) rfl ?_
    exact ⟨m, rfl, h.mono (Nat.le_succ _), Moved.refl _ _⟩
  · rw [if_neg e0, if_neg e0]
    obtain ⟨a, b, c⟩ := cntAt_in e0
    have hact := act_pool h a b (.inr rfl) (by omega) hN hBw
    generalize cntAt s.cnt n = z at *
    clear c
    go_enter Try.func20, Try.ntmps20
    go_wp2_with fail
    refine hcn.mono ?_
    rintro e w2 ⟨rfl, rfl⟩
    go_wp2_with fail
    refine hact.mono ?_
    rintro e w2 ⟨m', rfl, h2, h3⟩
    obtain ⟨L2, hM2, _⟩ := h2.mem
    have hcn2 := count_any hM2 h2.ok.len.2 n
    rw [h3.p] at hcn2
    clear hact hM2
    go_wp2_with fail
    refine hcn2.mono ?_
    rintro e w3 ⟨rfl, rfl⟩
    go_wp2
    refine bodyPost_ret (results_tmp2 rfl _ _ _) rfl ?_
    exact ⟨m', rfl, h2, h3⟩
end
end Go.Proofs.Ytaalhicdeibodaa
