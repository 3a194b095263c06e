/- Package runs, at int: Of, Runs, Same, Len. No condition but the bounds of the kind and of the sizes. -/
import Derived.Test.YtaalhicdeibodaaRdi
import Derived.WalkLawsBesides
namespace Go.Proofs.Ytaalhicdeibodaa
open Go.RowKit Go.Proofs Go.Shelf
set_option linter.unusedVariables false
theorem add_nonei {p : Value} {lo hi : Int} {w : World} (hle : ¬ lo ≤ hi) : Calls Try.prog 59 #[p, .int .i64 lo, .int .i64 hi] w fun e w' => e = .returned (.int .i64 0) ∧ w = w' := by
  have h : hi < lo := by omega
  go_enter Try.func59, Try.ntmps59
  go_wp2
  go_ret
  exact ⟨rfl, rfl⟩
theorem add_allFi {B p c : Nat} {A : Option Addr} {L : List Rn} {lo hi : Int} {w : World} (hS : SetAti B p A c w L) (hl : L.length ≤ 1000000) (hb : Bdi ⟨lo, hi⟩) (hpB : B ≤ p) (hBw : B ≤ w.heap.size) :
    Calls Try.prog 59 #[.pointer (some ⟨p, 0, none⟩), .int .i64 lo, .int .i64 hi] w fun e w' => ∃ A' c', e = .returned (.int .i64 (addN L ⟨lo, hi⟩)) ∧ SetAti B p A' c' w' (addL L ⟨lo, hi⟩) ∧ Exc (fun q _ => q = p) w w' ∧ (RowRi w.heap.size w' A' c' (addL L ⟨lo, hi⟩) ∨ (A' = A ∧ c' = c ∧ addL L ⟨lo, hi⟩ = L)) := by
  by_cases h : lo ≤ hi
  · have e1 : addN L ⟨lo, hi⟩ = (gapsL (withinL L ⟨lo, hi⟩) ⟨lo, hi⟩).foldl withZ 0 := if_pos h
    rw [e1]
    exact (add_anyFi hS hl hb hpB hBw h).mono fun e w' ⟨A', c', h1, h2, h3, h4⟩ => ⟨A', c', h1, h2, h3, .inl h4⟩
  · have e1 : addN L ⟨lo, hi⟩ = 0 := if_neg h
    have e2 : addL L ⟨lo, hi⟩ = L := if_neg h
    rw [e1, e2]
    refine (add_nonei h).mono ?_
    rintro e w' ⟨rfl, rfl⟩
    exact ⟨A, c, rfl, hS, exc_refl _ _, .inr ⟨rfl, rfl, rfl⟩⟩
theorem add_alli {B p c : Nat} {A : Option Addr} {L : List Rn} {lo hi : Int} {w : World} (hS : SetAti B p A c w L) (hl : L.length ≤ 1000000) (hb : Bdi ⟨lo, hi⟩) (hpB : B ≤ p) (hBw : B ≤ w.heap.size) :
    Calls Try.prog 59 #[.pointer (some ⟨p, 0, none⟩), .int .i64 lo, .int .i64 hi] w fun e w' => ∃ A' c', e = .returned (.int .i64 (addN L ⟨lo, hi⟩)) ∧ SetAti B p A' c' w' (addL L ⟨lo, hi⟩) ∧ Exc (fun q _ => q = p) w w' := by
  by_cases h : lo ≤ hi
  · have e1 : addN L ⟨lo, hi⟩ = (gapsL (withinL L ⟨lo, hi⟩) ⟨lo, hi⟩).foldl withZ 0 := if_pos h
    rw [e1]
    exact add_anyi hS hl hb hpB hBw h
  · have e1 : addN L ⟨lo, hi⟩ = 0 := if_neg h
    have e2 : addL L ⟨lo, hi⟩ = L := if_neg h
    rw [e1, e2]
    refine (add_nonei h).mono ?_
    rintro e w' ⟨rfl, rfl⟩
    exact ⟨A, c, rfl, hS, exc_refl _ _⟩
theorem RowRi.slice0 {B : Nat} {w : World} {A : Option Addr} {c : Nat} {L : List Rn} (h : RowRi B w A c L) : L.length ≤ c ∧ (A = none → L = [] ∧ c = 0) ∧ (∀ a, A = some a → ∃ g, a = ⟨g, 0, none⟩ ∧ ∀ j u, (L.flatMap rci)[j]? = some u → w.cell? ((⟨g, 0, none⟩ : Addr).add j) = some u) := by
  rcases h.2 with ⟨hv, h0⟩ | ⟨g, cap, cur, hv, hb, hg, hle, _⟩
  · injection hv with h1 h2 h3
    subst h1 h3
    exact ⟨by omega, fun _ => ⟨List.length_eq_zero_iff.1 h0, rfl⟩, fun a ha => by cases ha⟩
  · injection hv with h1 h2 h3
    subst h1 h3
    refine ⟨hle, fun h => (by cases h), fun a ha => ?_⟩
    injection ha with ha
    exact ⟨g, ha.symm, fun j u hu => World.ownsRow.cells h (g := g) rfl j u hu⟩
theorem eqRi (x y : Rn) (w : World) : (Op.equalIn 10000 94 (.agg #[.int .i64 x.lo, .int .i64 x.hi]) (.agg #[.int .i64 y.lo, .int .i64 y.hi])).run Try.prog w = .ok (decide (x = y)) w := by
  have u3 := Try.underlying3
  have hS : Try.prog.underlying 94 = some (.struct (Try.prog.fieldsOf 94)) := by kernel_rfl
  have hp : Try.prog.stoodInHeld 94 = false := by kernel_rfl
  obtain ⟨a, b⟩ := x
  obtain ⟨c, d⟩ := y
  rw [show (10000 : Nat) = 9999 + 1 from rfl, run_equalIn_agg w 9999 94 _ _ hS hp]
  simp only [Program.fieldsOf, Try.underlying94]
  go_simp
  by_cases h1 : a = c
  · by_cases h2 : b = d <;> simp [h1, h2]
  · simp [h1]
theorem neqRi (x y : Rn) (w : World) : (binOp .neq 94 (.agg #[.int .i64 x.lo, .int .i64 x.hi]) (.agg #[.int .i64 y.lo, .int .i64 y.hi])).run Try.prog w = .ok (.bool (!decide (x = y))) w := by
  rw [run_neq_struct, eqRi]
  rfl
end Go.Proofs.Ytaalhicdeibodaa
