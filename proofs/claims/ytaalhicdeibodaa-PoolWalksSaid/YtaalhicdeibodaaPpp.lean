/- Layer 10: two pools side by side. No condition. -/
import Derived.Test.YtaalhicdeibodaaPat
namespace Go.Proofs.Ytaalhicdeibodaa
open Go.RowKit Go.Proofs Go.Shelf
set_option linter.unusedVariables false
/-- Two pools of the program, that lie apart. -/
structure PP (w : World) (B N : Nat) (V : World) (m0 k0 m k : Pm) (s1 s2 : Pl) : Prop where
  p : PoolS B N V m s1
  q : PoolS B N V k s2
  ap : ∀ q, m.foot q → ¬ k.foot q
  mp : m.p = m0.p
  kp : k.p = k0.p
  ex : Ext w V
  lo : w.heap.size ≤ B
  hi : B ≤ V.heap.size
section
variable {w : World} {B N M : Nat} {V V' : World} {m0 k0 m k m' k' : Pm} {s1 s2 s' : Pl}
theorem PP.ext (h : PP w B N V m0 k0 m k s1 s2) (he : Ext V V') : PP w B N V' m0 k0 m k s1 s2 := ⟨h.p.ext he, h.q.ext he, h.ap, h.mp, h.kp, h.ex.trans he, h.lo, Nat.le_trans h.hi he.size⟩
theorem PP.mono (h : PP w B N V m0 k0 m k s1 s2) (hm : N ≤ M) : PP w B M V m0 k0 m k s1 s2 := ⟨h.p.mono hm, h.q.mono hm, h.ap, h.mp, h.kp, h.ex, h.lo, h.hi⟩
theorem PP.left (h : PP w B N V m0 k0 m k s1 s2) (hm : Moved m m' V V') (hp : PoolS B M V' m' s') (hN : N ≤ M) : PP w B M V' m0 k0 m' k s' s2 :=
  ⟨hp, (h.q.exc hm.x (fun q o hk hq => h.ap q hq hk)).mono hN, fun q hq hk => by
    rcases hm.foot q hq with e | e
    · exact h.ap q e hk
    · have := (h.q.foot_lt hk).2
      omega, hm.p.trans h.mp, h.kp, hm.toExt h.p h.ex h.lo, h.lo, Nat.le_trans h.hi hm.x.size⟩
theorem PP.right (h : PP w B N V m0 k0 m k s1 s2) (hm : Moved k k' V V') (hp : PoolS B M V' k' s') (hN : N ≤ M) : PP w B M V' m0 k0 m k' s1 s' :=
  ⟨(h.p.exc hm.x (fun q o hk hq => h.ap q hk hq)).mono hN, hp, fun q hq hk => by
    rcases hm.foot q hk with e | e
    · exact h.ap q hq e
    · have := (h.p.foot_lt hq).2
      omega, h.mp, hm.p.trans h.kp, hm.toExt h.q h.ex h.lo, h.lo, Nat.le_trans h.hi hm.x.size⟩
end
theorem Ans.v_inj {a : Ans} {A A' : Option Addr} {c c' : Nat} (h : a.v A c = a.v A' c') : A = A' ∧ c = c' := by
  unfold Ans.v at h
  injection h with h
  injection h with h
  injection h with _ h
  injection h with _ h
  injection h with _ h
  injection h with h _
  injection h with h1 _ h2
  exact ⟨h1, h2⟩
theorem Moved.exB {m m' : Pm} {B N : Nat} {w w' : World} {s : Pl} (h : Moved m m' w w') (hP : PoolS B N w m s) : Exc (fun q _ => B ≤ q) w w' :=
  ⟨h.x.os, h.x.tape, h.x.output, h.x.size, fun q o ho hn => h.x.block q o ho (fun e => hn (hP.foot_lt e).1)⟩
/-- Behind the first call of a pair. -/
def PA1 (w : World) (B N : Nat) (m0 k0 : Pm) (s1 s2 : Pl) (a : Ans) (z : Value) (V : World) : Prop := ∃ m k A c, z = a.v A c ∧ PP w B N V m0 k0 m k s1 s2 ∧ Kep k V A c a.l
/-- Behind the second. -/
def PA2 (w : World) (B N : Nat) (m0 k0 : Pm) (s1 s2 : Pl) (a : Ans) (z5 z : Value) (V : World) : Prop := ∃ m k A c A' c', z5 = a.v A c ∧ z = a.v A' c' ∧ PP w B N V m0 k0 m k s1 s2 ∧ NLi V A c a.l ∧ NLi V A' c' a.l
/-- Behind their comparison. -/
def PA3 (w : World) (B N : Nat) (m0 k0 : Pm) (s1 s2 : Pl) (z : Value) (V : World) : Prop := z = .bool true ∧ ∃ m k, PP w B N V m0 k0 m k s1 s2
theorem PA1.lasts (w : World) (B N : Nat) (m0 k0 : Pm) (s1 s2 : Pl) (a : Ans) (z : Value) : Lasts Ext (PA1 w B N m0 k0 s1 s2 a z) := fun w' w2 ⟨m, k, A, c, h1, h2, h3⟩ he => ⟨m, k, A, c, h1, h2.ext he, h3.ext he⟩
theorem PA2.lasts (w : World) (B N : Nat) (m0 k0 : Pm) (s1 s2 : Pl) (a : Ans) (z5 z : Value) : Lasts Ext (PA2 w B N m0 k0 s1 s2 a z5 z) := fun w' w2 ⟨m, k, A, c, A', c', h1, h2, h3, h4, h5⟩ he => ⟨m, k, A, c, A', c', h1, h2, h3.ext he, h4.ext he, h5.ext he⟩
theorem PA3.lasts (w : World) (B N : Nat) (m0 k0 : Pm) (s1 s2 : Pl) (z : Value) : Lasts Ext (PA3 w B N m0 k0 s1 s2 z) := fun w' w2 ⟨h1, m, k, h2⟩ he => ⟨h1, m, k, h2.ext he⟩
/-- The first call of a pair. -/
theorem pair1 {w : World} {B N : Nat} {V : World} {m0 k0 m k : Pm} {s1 s2 : Pl} (h : PP w B N V m0 k0 m k s1 s2) (hN : N ≤ 99000) (o : Opp) {MA : Option Addr} {mc : Nat} {marks : List Int} (hx : NLi V MA mc marks) (hl : marks.length ≤ 100000) :
    Calls Try.prog 25 #[.pointer (some ⟨m0.p, 0, none⟩), .agg #[.int .i64 o.k, .int .i64 o.n, .int .i64 o.t], .slice MA marks.length mc] V fun e V' => ∃ z, e = .returned z ∧ Exc (fun q _ => B ≤ q) V V' ∧ PA1 w B (N + 1) m0 k0 (s1.askS o.k o.n marks) s2 (s1.askA o.k o.n o.t marks) z V' := by
  have hc := asked_any h.p hN h.hi o.k o.n o.t hx hl
  rw [h.mp] at hc
  refine hc.mono ?_
  rintro e V' ⟨m', A, c, rfl, q1, q2, q3⟩
  have hq := h.q
  exact ⟨_, rfl, q2.exB h.p, m', k, A, c, rfl, h.left q2 q1 (Nat.le_succ _), Kep.of_row q3 (q3.nl (ans_bd h.p.ok o.k o.n o.t marks).2) hq⟩
/-- The second call of a pair. -/
theorem pair2 {w : World} {B N : Nat} {V : World} {m0 k0 : Pm} {s1 s2 : Pl} {a : Ans} {z5 : Value} (h : PA1 w B N m0 k0 s1 s2 a z5 V) (hN : N ≤ 99000) (o : Opp) {MA : Option Addr} {mc : Nat} {marks : List Int} (hx : NLi V MA mc marks) (hl : marks.length ≤ 100000) (ha : s2.askA o.k o.n o.t marks = a) :
    Calls Try.prog 25 #[.pointer (some ⟨k0.p, 0, none⟩), .agg #[.int .i64 o.k, .int .i64 o.n, .int .i64 o.t], .slice MA marks.length mc] V fun e V' => ∃ z, e = .returned z ∧ Exc (fun q _ => B ≤ q) V V' ∧ PA2 w B (N + 1) m0 k0 s1 (s2.askS o.k o.n marks) a z5 z V' := by
  obtain ⟨m, k, A, c, rfl, hP, hK⟩ := h
  have hc := asked_any hP.q hN hP.hi o.k o.n o.t hx hl
  rw [hP.kp, ha] at hc
  refine hc.mono ?_
  rintro e V' ⟨k', A', c', rfl, q1, q2, q3⟩
  have hb := (ans_bd hP.q.ok o.k o.n o.t marks).2
  rw [ha] at hb
  exact ⟨_, rfl, q2.exB hP.q, m, k', A, c, A', c', rfl, rfl, hP.right q2 q1 (Nat.le_succ _), (hK.moved q2).nl, q3.nl hb⟩
/-- Their comparison. -/
theorem pair3 {w : World} {B N : Nat} {V : World} {m0 k0 : Pm} {s1 s2 : Pl} {a : Ans} {z5 z : Value} (h : PA2 w B N m0 k0 s1 s2 a z5 z V) (hl : a.l.length ≤ 65536) :
    Calls Try.prog 27 #[z5, z] V fun e V' => ∃ y, e = .returned y ∧ Exc (fun q _ => B ≤ q) V V' ∧ PA3 w B N m0 k0 s1 s2 y V' := by
  obtain ⟨m, k, A, c, A', c', rfl, rfl, hP, h1, h2⟩ := h
  refine (same_any h1 h2 hl).mono ?_
  rintro e V' ⟨rfl, hE⟩
  exact ⟨_, rfl, Exc.of_ext hE, rfl, m, k, hP.ext hE⟩
end Go.Proofs.Ytaalhicdeibodaa
