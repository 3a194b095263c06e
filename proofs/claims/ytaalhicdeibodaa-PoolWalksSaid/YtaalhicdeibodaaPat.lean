/- Layer 10: asked, of any kind; same. No condition but the sizes. -/
import Derived.Test.YtaalhicdeibodaaPas
namespace Go.Proofs.Ytaalhicdeibodaa
open Go.RowKit Go.Proofs Go.Shelf
set_option linter.unusedVariables false
theorem asked_any {B N : Nat} {w : World} {m : Pm} {s : Pl} (h : PoolS B N w m s) (hN : N ≤ 99000) (hBw : B ≤ w.heap.size) (k n t : Int) {MA : Option Addr} {mc : Nat} {marks : List Int} (hx : NLi w MA mc marks) (hl : marks.length ≤ 100000) :
    Calls Try.prog 25 #[.pointer (some ⟨m.p, 0, none⟩), .agg #[.int .i64 k, .int .i64 n, .int .i64 t], .slice MA marks.length mc] w (AskP B (N + 1) w m (s.askS k n marks) (s.askA k n t marks)) := by
  by_cases hk : k < 0 ∨ 12 ≤ k
  · have e1 : s.askS k n marks = s.undoS (agoZ marks n) := by
      unfold Pl.askS
      rw [if_neg (by omega), if_neg (by omega)]
    have e2 : s.askA k n t marks = ⟨0, 0, s.undoB (agoZ marks n), [], 0⟩ := by
      unfold Pl.askA
      iterate 12 rw [if_neg (by omega)]
    rw [e1, e2]
    exact asked12 h hN hBw k hk n t hx hl
  have hk2 : k = 0 ∨ k = 1 ∨ k = 2 ∨ k = 3 ∨ k = 4 ∨ k = 5 ∨ k = 6 ∨ k = 7 ∨ k = 8 ∨ k = 9 ∨ k = 10 ∨ k = 11 := by omega
  rcases hk2 with rfl | rfl | rfl | rfl | rfl | rfl | rfl | rfl | rfl | rfl | rfl | rfl
  · exact asked0 h hN hBw n t MA _ mc
  · exact asked1 h hN hBw n t MA _ mc
  · exact asked2 h hN hBw n t MA _ mc
  · exact asked3 h hN hBw n t MA _ mc
  · exact asked4 h hN hBw n t MA _ mc
  · exact asked5 h hN hBw n t MA _ mc
  · exact asked6 h hN hBw n t MA _ mc
  · exact asked7 h hN hBw n t MA _ mc
  · exact asked8 h hN hBw n t MA _ mc
  · exact asked9 h hN hBw n t MA _ mc
  · exact asked10 h hN hBw n t MA _ mc
  · exact asked11 h hN hBw n t MA _ mc
theorem ans_bd {s : Pl} {N : Nat} (hok : s.Ok N) (k n t : Int) (marks : List Int) : (s.askA k n t marks).l.length ≤ 65536 ∧ ∀ z ∈ (s.askA k n t marks).l, -9223372036854775808 ≤ z ∧ z ≤ 9223372036854775807 := by
  have hl := hok.len
  have hnil : ([] : List Int).length ≤ 65536 ∧ ∀ z ∈ ([] : List Int), -9223372036854775808 ≤ z ∧ z ≤ 9223372036854775807 := ⟨by simp, fun z hz => by cases hz⟩
  by_cases k6 : k = 6
  · subst k6
    have h1 := pages_bd hok n
    show (stopL t (s.pages n)).length ≤ 65536 ∧ ∀ z ∈ stopL t (s.pages n), _
    unfold stopL
    split
    · exact ⟨by omega, fun z hz => by have := h1.2 z hz; omega⟩
    · exact ⟨by rw [List.length_take]; omega, fun z hz => by have := h1.2 z (List.mem_of_mem_take hz); omega⟩
  by_cases k7 : k = 7
  · subst k7
    exact ⟨hl.2, fun z hz => by
      have h1 := hok.cnt z hz
      have h2 := hok.refs
      show _ ≤ z ∧ z ≤ _
      omega⟩
  by_cases hk : k < 0 ∨ 12 ≤ k
  · have e2 : s.askA k n t marks = ⟨0, 0, s.undoB (agoZ marks n), [], 0⟩ := by
      unfold Pl.askA
      iterate 12 rw [if_neg (by omega)]
    rw [e2]
    exact hnil
  have hk2 : k = 0 ∨ k = 1 ∨ k = 2 ∨ k = 3 ∨ k = 4 ∨ k = 5 ∨ k = 8 ∨ k = 9 ∨ k = 10 ∨ k = 11 := by omega
  rcases hk2 with rfl | rfl | rfl | rfl | rfl | rfl | rfl | rfl | rfl | rfl <;> exact hnil
theorem same_any {w : World} {a : Ans} {A A' : Option Addr} {c c' : Nat} (hx : NLi w A c a.l) (hy : NLi w A' c' a.l) (hl : a.l.length ≤ 65536) :
    Calls Try.prog 27 #[a.v A c, a.v A' c'] w fun e w' => e = .returned (.bool true) ∧ Ext w w' := by
  obtain ⟨n, m, is, l, e⟩ := a
  unfold Ans.v
  dsimp only at hx hy hl ⊢
  have hE := (ext_alloc w (Obj.cells #[.int .i64 n, .int .i64 m, .bool is, .slice A l.length c, .int .i64 e] 54)).trans (ext_alloc (w.alloc (Obj.cells #[.int .i64 n, .int .i64 m, .bool is, .slice A l.length c, .int .i64 e] 54)) (Obj.cells #[.int .i64 n, .int .i64 m, .bool is, .slice A' l.length c', .int .i64 e] 54))
  have hq := eqi_any (hx.ext hE) (hy.ext hE) (by omega) (by omega)
  rw [decide_eq_true rfl] at hq
  have b1 : (n == n) = true := by simp
  have b2 : (m == m) = true := by simp
  have b3 : (is == is) = true := by simp
  have b4 : (e == e) = true := by simp
  go_enter Try.func27, Try.ntmps27
  go_wp2_with fail
  refine hq.mono ?_
  rintro e w4 ⟨rfl, hE4⟩
  go_wp2
  go_ret
  exact ⟨rfl, hE.trans hE4⟩
end Go.Proofs.Ytaalhicdeibodaa
