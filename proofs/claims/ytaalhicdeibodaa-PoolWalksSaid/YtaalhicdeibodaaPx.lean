/- Layer 10: fixed, likely. No condition but the sizes. -/
import Derived.Test.YtaalhicdeibodaaPw
namespace Go.Proofs.Ytaalhicdeibodaa
open Go.RowKit Go.Proofs Go.Shelf
set_option linter.unusedVariables false
attribute [local go_sem] Oper.semAt_some
section
variable {B N : Nat} {w : World} {m : Pm} {s : Pl}
theorem state_pool (h : PoolS B N w m s) (n : Int) : Calls Try.prog 14 #[.pointer (some ⟨m.p, 0, none⟩), .int .i64 n] w fun e w' => e = .returned (.int .i64 (stAt s.cnt s.last n)) ∧ w = w' := by
  obtain ⟨L, hM, _⟩ := h.mem
  exact state_any hM h.ok.last h.ok.len.2 n
theorem count_pool (h : PoolS B N w m s) (n : Int) : Calls Try.prog 18 #[.pointer (some ⟨m.p, 0, none⟩), .int .i64 n] w fun e w' => e = .returned (.int .i64 (cntAt s.cnt n)) ∧ w = w' := by
  obtain ⟨L, hM, _⟩ := h.mem
  exact count_any hM h.ok.len.2 n
theorem len_pool (h : PoolS B N w m s) : Calls Try.prog 42 #[.pointer (some ⟨m.p, 0, none⟩)] w fun e w' => e = .returned (.int .i64 s.cnt.length) ∧ w = w' := by
  obtain ⟨L, hM, _⟩ := h.mem
  exact len_any hM
theorem refs_pool (h : PoolS B N w m s) : Calls Try.prog 19 #[.pointer (some ⟨m.p, 0, none⟩)] w fun e w' => e = .returned (.int .i64 s.refs) ∧ w = w' := by
  obtain ⟨L, hM, _⟩ := h.mem
  exact refs_any hM
theorem tally_pool (h : PoolS B N w m s) (k : Int) : Calls Try.prog 48 #[.pointer (some ⟨m.p, 0, none⟩), .int .i64 k] w fun e w' => e = .returned (.int .i64 (talOf s.sts k)) ∧ w = w' := by
  obtain ⟨L, hM, _⟩ := h.mem
  have e1 : (if 1 ≤ k ∧ k ≤ 4 then (taL s.sts).getD k.toNat 0 else 0) = talOf s.sts k := by
    by_cases hk : 1 ≤ k ∧ k ≤ 4
    · rw [if_pos hk, taL_at _ (by omega), show ((k.toNat : Nat) : Int) = k by omega]
    · rw [if_neg hk]
      unfold talOf
      rw [if_neg hk]
  have := tally_any hM k
  rw [e1] at this
  exact this
end
set_option maxRecDepth 100000 in
set_option maxHeartbeats 2000000 in
theorem fixed_any {w : World} : Calls Try.prog 10 #[] w fun e w' => e = .returned (.bool true) ∧ Ext w w' := by
  have hn := new_pool (w := w) 3 2
  rw [show newE 3 2 = 0 by decide] at hn
  obtain ⟨s0, hs0⟩ : ∃ s, newS 2 (3 : Int).toNat = s := ⟨_, rfl⟩
  rw [hs0] at hn
  have e1 : lowF s0.sts = 1 := by rw [← hs0]; decide
  have e2 : s0.allocE = 0 := by rw [← hs0]; decide
  obtain ⟨s1, hs1⟩ : ∃ s, s0.allocS = s := ⟨_, rfl⟩
  have e3 : lowF s1.sts = 2 := by rw [← hs1, ← hs0]; decide
  have e4 : s1.allocE = 0 := by rw [← hs1, ← hs0]; decide
  obtain ⟨s2, hs2⟩ : ∃ s, s1.allocS = s := ⟨_, rfl⟩
  have e5 : stAt s2.cnt s2.last 2 = 3 := by rw [← hs2, ← hs1, ← hs0]; decide
  have e6 : stAt s2.cnt s2.last 3 = 1 := by rw [← hs2, ← hs1, ← hs0]; decide
  have e7 : s2.undoB 1 = true := by rw [← hs2, ← hs1, ← hs0]; decide
  obtain ⟨s3, hs3⟩ : ∃ s, s2.undoS 1 = s := ⟨_, rfl⟩
  have e8 : stAt s3.cnt s3.last 2 = 1 := by rw [← hs3, ← hs2, ← hs1, ← hs0]; decide
  have e9 : s3.incE 2 = 15 := by rw [← hs3, ← hs2, ← hs1, ← hs0]; decide
  have H1 := Lib.hid hs1
  have H2 := Lib.hid hs2
  have H3 := Lib.hid hs3
  have E1 := Lib.hid e1
  have E2 := Lib.hid e2
  have E3 := Lib.hid e3
  have E4 := Lib.hid e4
  have E5 := Lib.hid e5
  have E6 := Lib.hid e6
  have E7 := Lib.hid e7
  have E8 := Lib.hid e8
  have E9 := Lib.hid e9
  clear hs0 hs1 hs2 hs3 e1 e2 e3 e4 e5 e6 e7 e8 e9
  go_enter Try.func10, Try.ntmps10
  go_wp2_with fail
  refine hn.mono ?_
  rintro e w1 ⟨v, rfl, hE1, hv⟩
  obtain ⟨m, rfl, hP⟩ : ∃ m, v = .pointer (some ⟨Pm.p m, 0, none⟩) ∧ PoolS w.heap.size 0 w1 m s0 := by
    rcases hv with ⟨h, _⟩ | ⟨_, h⟩
    · first | exact (h trivial).elim | exact absurd rfl h
    · exact h
  clear hn hv
  have q1 := alloc_any hP (by omega) hE1.size
  rw [E1.out, E2.out, H1.out] at q1
  go_wp2_with fail
  refine q1.mono ?_
  rintro e w2 ⟨m1, rfl, h1, mv1⟩
  have hE2 : Ext w w2 := mv1.x.to_ext hE1 (fun q o hq => (hP.foot_lt hq).1)
  have q2 := alloc_any h1 (by omega) hE2.size
  rw [E3.out, E4.out, H2.out, mv1.p] at q2
  clear q1
  go_wp2_with fail
  refine q2.mono ?_
  rintro e w3 ⟨m2, rfl, h2, mv2⟩
  have hE3 : Ext w w3 := mv2.x.to_ext hE2 (fun q o hq => (h1.foot_lt hq).1)
  have p2 : m2.p = m.p := mv2.p.trans mv1.p
  have q3 := state_pool h2 2
  have q4 := state_pool h2 3
  have q5 := undo_any h2 (by omega) hE3.size 1
  rw [E5.out, p2] at q3
  rw [E6.out, p2] at q4
  rw [E7.out, H3.out, p2] at q5
  clear q2
  go_wp2_with fail
  refine q3.mono ?_
  rintro e w4 ⟨rfl, rfl⟩
  go_wp2_with fail
  refine q4.mono ?_
  rintro e w4 ⟨rfl, rfl⟩
  go_wp2_with fail
  refine q5.mono ?_
  rintro e w4 ⟨m3, rfl, h3, mv3⟩
  have hE4 : Ext w w4 := mv3.x.to_ext hE3 (fun q o hq => (h2.foot_lt hq).1)
  have p3 : m3.p = m.p := mv3.p.trans p2
  have q6 := state_pool h3 2
  have q7 := inc_any h3 (by omega) hE4.size 2
  rw [E8.out, p3] at q6
  rw [E9.out, p3] at q7
  clear q3 q4 q5
  go_wp2_with fail
  refine q6.mono ?_
  rintro e w5 ⟨rfl, rfl⟩
  go_wp2_with fail
  refine q7.mono ?_
  rintro e w5 ⟨m4, rfl, h4, mv4⟩
  have hE5 : Ext w w5 := mv4.x.to_ext hE4 (fun q o hq => (h3.foot_lt hq).1)
  clear q6 q7
  go_wp2
  go_ret
  exact ⟨rfl, hE5⟩
end Go.Proofs.Ytaalhicdeibodaa
