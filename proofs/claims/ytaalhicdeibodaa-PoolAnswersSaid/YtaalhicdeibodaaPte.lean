/- Layer 10: told, of any kind; a pool and the document's. No condition but the sizes. -/
import Derived.Test.YtaalhicdeibodaaPtd
import Derived.Test.YtaalhicdeibodaaPpp
namespace Go.Proofs.Ytaalhicdeibodaa
open Go.RowKit Go.Proofs Go.Shelf
set_option linter.unusedVariables false
theorem told_any {B N : Nat} {w : World} {m : Rm} {s : Pl} (h : RefS B N w m s) (hN : N ≤ 99000) (hBw : B ≤ w.heap.size) (k n t : Int) {MA : Option Addr} {mc : Nat} {marks : List Int} (hx : NLi w MA mc marks) (hl : marks.length ≤ 100000) :
    Calls Try.prog 26 #[.pointer (some ⟨m.p, 0, none⟩), .agg #[.int .i64 k, .int .i64 n, .int .i64 t], .slice MA marks.length mc] w (TellP B (N + 1) w m (s.askS k n marks) (s.askA k n t marks)) := by
  by_cases hk : k < 0 ∨ 12 ≤ k
  · have e1 : s.askS k n marks = s.undoS (agoZ marks n) := by
      unfold Pl.askS
      rw [if_neg (by omega), if_neg (by omega)]
    have e2 : s.askA k n t marks = ⟨0, 0, s.undoB (agoZ marks n), [], 0⟩ := by
      unfold Pl.askA
      iterate 12 rw [if_neg (by omega)]
    rw [e1, e2]
    exact told12 h hN hBw k hk n t hx hl
  have hk2 : k = 0 ∨ k = 1 ∨ k = 2 ∨ k = 3 ∨ k = 4 ∨ k = 5 ∨ k = 6 ∨ k = 7 ∨ k = 8 ∨ k = 9 ∨ k = 10 ∨ k = 11 := by omega
  rcases hk2 with rfl | rfl | rfl | rfl | rfl | rfl | rfl | rfl | rfl | rfl | rfl | rfl
  · exact told0 h hN hBw n t MA _ mc
  · exact told1 h hN hBw n t MA _ mc
  · exact told2 h hN hBw n t MA _ mc
  · exact told3 h hN hBw n t MA _ mc
  · exact told4 h hN hBw n t MA _ mc
  · exact told5 h hN hBw n t MA _ mc
  · have e2 : s.askA 6 n t marks = ⟨0, 0, false, stopL t (s.pages n), 0⟩ := rfl
    rw [e2]
    by_cases t0 : t < 0
    · rw [show stopL t (s.pages n) = s.pages n from if_pos t0]
      exact told6a h hN hBw n t t0 MA _ mc
    · obtain ⟨j, rfl⟩ : ∃ j : Nat, t = (j : Int) := ⟨t.toNat, by omega⟩
      have e0 : stopL (j : Int) (s.pages n) = (s.pages n).take j := by unfold stopL; rw [if_neg (by omega), Int.toNat_natCast]
      rw [e0]
      by_cases t1 : j < (s.pages n).length
      · exact told6b h hN hBw n j t1 MA _ mc
      · rw [List.take_of_length_le (by omega)]
        exact told6c h hN hBw n j t1 MA _ mc
  · exact told7 h hN hBw n t MA _ mc
  · exact told8 h hN hBw n t MA _ mc
  · exact told9 h hN hBw n t MA _ mc
  · exact told10 h hN hBw n t MA _ mc
  · exact told11 h hN hBw n t MA _ mc
theorem RMoved.toExt {B N : Nat} {w0 w w' : World} {m m' : Rm} {s : Pl} (h : RMoved m m' w w') (hP : RefS B N w m s) (h0 : Ext w0 w) (hB : w0.heap.size ≤ B) : Ext w0 w' := h.x.to_ext h0 (fun q o hq => Nat.le_trans hB (hP.foot_lt hq).1)
theorem RMoved.exB {m m' : Rm} {B N : Nat} {w w' : World} {s : Pl} (h : RMoved m m' w w') (hP : RefS B N w m s) : Exc (fun q _ => B ≤ q) w w' :=
  ⟨h.x.os, h.x.tape, h.x.output, h.x.size, fun q o ho hn => h.x.block q o ho (fun e => hn (hP.foot_lt e).1)⟩
/-- A pool of the program and the document's, that lie apart and tell the same. -/
structure PQ (w : World) (B N : Nat) (V : World) (m0 : Pm) (r0 : Rm) (m : Pm) (r : Rm) (s1 s2 : Pl) : Prop where
  p : PoolS B N V m s1
  q : RefS B N V r s2
  ap : ∀ q, m.foot q → ¬ r.foot q
  mp : m.p = m0.p
  rp : r.p = r0.p
  ex : Ext w V
  lo : w.heap.size ≤ B
  hi : B ≤ V.heap.size
section
variable {w : World} {B N M : Nat} {V V' : World} {m0 m m' : Pm} {r0 r r' : Rm} {s1 s2 s' : Pl}
theorem PQ.ext (h : PQ w B N V m0 r0 m r s1 s2) (he : Ext V V') : PQ w B N V' m0 r0 m r s1 s2 := ⟨h.p.ext he, h.q.ext he, h.ap, h.mp, h.rp, h.ex.trans he, h.lo, Nat.le_trans h.hi he.size⟩
theorem PQ.mono (h : PQ w B N V m0 r0 m r s1 s2) (hm : N ≤ M) : PQ w B M V m0 r0 m r s1 s2 := ⟨h.p.mono hm, h.q.mono hm, h.ap, h.mp, h.rp, h.ex, h.lo, h.hi⟩
theorem PQ.left (h : PQ w B N V m0 r0 m r s1 s2) (hm : Moved m m' V V') (hp : PoolS B M V' m' s') (hN : N ≤ M) : PQ w B M V' m0 r0 m' r s' s2 :=
  ⟨hp, (h.q.exc hm.x (fun q o hk hq => h.ap q hq hk)).mono hN, fun q hq hk => by
    rcases hm.foot q hq with e | e
    · exact h.ap q e hk
    · have := (h.q.foot_lt hk).2
      omega, hm.p.trans h.mp, h.rp, hm.toExt h.p h.ex h.lo, h.lo, Nat.le_trans h.hi hm.x.size⟩
theorem PQ.right (h : PQ w B N V m0 r0 m r s1 s2) (hm : RMoved r r' V V') (hp : RefS B M V' r' s') (hN : N ≤ M) : PQ w B M V' m0 r0 m r' s1 s' :=
  ⟨(h.p.exc hm.x (fun q o hk hq => h.ap q hk hq)).mono hN, hp, fun q hq hk => by
    rcases hm.foot q hk with e | e
    · exact h.ap q hq e
    · have := (h.p.foot_lt hq).2
      omega, h.mp, hm.p.trans h.rp, hm.toExt h.q h.ex h.lo, h.lo, Nat.le_trans h.hi hm.x.size⟩
end
end Go.Proofs.Ytaalhicdeibodaa
