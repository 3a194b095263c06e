/- Ranges over functions: a contract of iterators that keep a state of their own in cells and that range over other iterators, and the law of the statement. No condition. -/
import Derived.RangeFuncNested
import Derived.RangeFuncBound
import Derived.RangeFuncCalls
import Derived.RangeFuncLeaves
import Derived.RangeFuncRecord
import Derived.Shelf.Abstract
import Derived.Shelf.RegionOpen
import Derived.WalkKit
import Derived.OwnWalkIn
import Derived.TacticsInMore
import Derived.LoopNIn
import Derived.LoopIn
import Derived.Test.YtaalhicdeibodaaWords
import Derived.Test.YtaalhicdeibodaaRg
namespace Go.Proofs.Ytaalhicdeibodaa
open Go.RowKit Go.Proofs Go.Shelf
set_option linter.unusedVariables false
/-- What an iterator turns by itself: blocks from C on that hold no cells, and its own blocks D. -/
def AbidesX {α : Type} (C : Nat) (D : Nat → Prop) (J : List α → World → Prop) : Prop :=
  ∀ s A B row, J s A → A.grownBy B row → (∀ r, row = some r → D r ∨ (C ≤ r ∧ ∃ o : Obj, A.heap[r]? = some o ∧ o.isCells = false)) → J s B
/-- What a round may turn: the blocks Dk, and what holds no cells below C. -/
def RoundX (Dk : Nat → Prop) (C : Nat) : World → World → Prop := Exc fun q o => Dk q ∨ (q < C ∧ o.isCells = false)
theorem RoundX.trans {Dk : Nat → Prop} {C : Nat} {A B D : World} (h : RoundX Dk C A B) (k : RoundX Dk C B D) : RoundX Dk C A D := Exc.trans h k
theorem RoundX.mono {Dk Dk' : Nat → Prop} {C C' : Nat} {A B : World} (h : RoundX Dk C A B) (hd : ∀ q, Dk q → Dk' q) (hc : C ≤ C') : RoundX Dk' C' A B :=
  ⟨h.os, h.tape, h.output, h.size, fun k o hk hn => h.block k o hk (fun e => hn (e.imp (hd k) fun ⟨a, b⟩ => ⟨by omega, b⟩))⟩
theorem RoundX.of_ext {Dk : Nat → Prop} {C : Nat} {A B : World} (h : Ext A B) : RoundX Dk C A B := Exc.of_ext h
theorem RoundX.refl (Dk : Nat → Prop) (C : Nat) (A : World) : RoundX Dk C A A := exc_refl _ _
theorem RoundX.put {Dk : Nat → Prop} {C l : Nat} {W : World} {o : Obj} (o' : Obj) (hl : l < C) (h : W.heap[l]? = some o) (ho : o.isCells = false) : RoundX Dk C W (W.putObj l o') :=
  Exc.of_grown (grownBy_putObj' W l o') (fun g x h1 h2 => by
    injection h1 with h1
    subst h1
    rw [h] at h2
    injection h2 with h2
    subst h2
    exact .inr ⟨hl, ho⟩)
theorem RoundX.cells {Dk : Nat → Prop} {C : Nat} {A B : World} (h : RoundX Dk C A B) {g : Nat} {cs : Array Value} {t : TypeId} {fr : Nat × Nat} (hg : A.heap[g]? = some (.cells cs t fr)) (hd : ¬ Dk g) : B.heap[g]? = some (.cells cs t fr) :=
  h.blk hg (fun e => e.elim hd (fun ⟨_, e⟩ => by simp [Obj.isCells] at e))
/-- The contract of an iterator: for whatever body of a loop. -/
def SeqX {α : Type} (P : Program) (g : Nat) (lb : Array Value) (encs : α → Array Value) (D Dk : Nat → Prop) (S Sp : List α → Prop) (w : World) : Prop :=
  ∀ (l : Nat) (J Jx : List α → World → Prop) (W : World), RoundX (fun _ => False) 0 w W → AbidesX W.heap.size D J → AbidesX W.heap.size D Jx →
    (∀ pre x W1, J pre W1 → Sp (pre ++ [x]) → YieldAt Fence.wide 0 P l (encs x) W1 fun e W' =>
      (e = .returned (.bool true) ∧ J (pre ++ [x]) W' ∧ RoundX Dk W.heap.size W1 W') ∨ (e = .returned (.bool false) ∧ Jx (pre ++ [x]) W' ∧ RoundX Dk W.heap.size W1 W')) →
    J [] W →
    CallsIn Fence.wide 0 P g (#[.func (.yield l) #[] #[]] ++ lb) W fun e W' => (∃ v, e = .returned v) ∧ ((∃ xs, S xs ∧ J xs W') ∨ (∃ pre, Sp pre ∧ Jx pre W'))
def ownPostX {α : Type} (Dk : Nat → Prop) (C : Nat) (I : List α → World → Prop) (Ix : Code → List α → World → Prop) (xs : List α) (W : World) : Exit → Act → World → Prop
  | .normal, _, W' => RoundX Dk C W W' ∧ I xs W'
  | .ret, _, W' => RoundX Dk C W W' ∧ Ix .ret xs W'
  | .exit id, _, W' => RoundX Dk C W W' ∧ Ix (.exit id) xs W'
  | .goto t, _, W' => RoundX Dk C W W' ∧ Ix (.goto t) xs W'
  | .panic _, _, _ => False
  | .outgrown, _, _ => False
theorem grown_ext {A B : World} (h : Ext A B) : A.grownBy B none := ⟨h.os, h.tape, h.output, h.size, fun k hk _ => by
  obtain ⟨o, ho⟩ : ∃ o, A.heap[k]? = some o := ⟨_, Array.getElem?_eq_getElem hk⟩
  rw [h.blk ho, ho]⟩
theorem AbidesX.alloc {α : Type} {C : Nat} {D : Nat → Prop} {J : List α → World → Prop} (h : AbidesX C D J) {s : List α} {A : World} (o : Obj) (hs : J s A) : J s (A.alloc o) :=
  h s A _ none hs (World.grownBy_alloc A o none) (fun r e => by cases e)
theorem AbidesX.put {α : Type} {C : Nat} {D : Nat → Prop} {J : List α → World → Prop} (h : AbidesX C D J) {s : List α} {A : World} {l : Nat} {o : Obj} (o' : Obj) (hs : J s A) (hl : C ≤ l) (ho : A.heap[l]? = some o) (hc : o.isCells = false) : J s (A.putObj l o') :=
  h s A _ (some l) hs (grownBy_putObj' A l o') (fun r e => by injection e with e; subst e; exact .inr ⟨hl, o, ho, hc⟩)
/-- THE STATEMENT. -/
theorem wpIn_rangeX {α : Type} {P : Program} {g : Operand} {ps : Array Tmp} {assign body : Code} {Q : Exit → Act → World → Prop} {a : Act} {w : World}
    {gf : Nat} {lb : Array Value} (hg : a.eval g = .func (.func gf) #[] lb) (eg : ∀ args w, (callFunc gf args).run P w = .ok (.enter gf args) w)
    {encs : α → Array Value} {D Dk : Nat → Prop} {S Sp : List α → Prop} (hseq : SeqX P gf lb encs D Dk S Sp w) (hD : ∀ q, D q → q < w.heap.size) (hDk : ∀ q, Dk q → q < w.heap.size) (hps : ∀ x, (encs x).size = ps.size)
    (I : List α → World → Prop) (Ix : Code → List α → World → Prop) (hI : AbidesX w.heap.size D I) (hIx : ∀ c, AbidesX w.heap.size D (Ix c)) (h0 : I [] w) (Ax : α → Act → World → Prop) (hAx : ∀ x a' A B row, Ax x a' A → A.grownBy B row → (∀ r, row = some r → ∃ o : Obj, A.heap[r]? = some o ∧ o.isCells = false) → Ax x a' B)
    (hassign : ∀ (l : Nat) (x : α) (W : World) (K : Act → World → Prop), w.heap.size ≤ W.heap.size → (∀ a' W', Ext W W' → Ax x a' W' → K a' W') →
      assign.wpIn (Fence.wide.inRound l) 0 P (Exit.then K (fun _ _ _ => False)) { tmps := (ps.zip (encs x)).foldl (fun t (p, v) => t.setIfInBounds p v) a.tmps, defers := [] } W)
    (hbody : ∀ (l : Nat) (pre : List α) (x : α) (a' : Act) (W : World), I pre W → Ax x a' W → Sp (pre ++ [x]) → w.heap.size ≤ W.heap.size → body.wpIn (Fence.wide.inRound l) 0 P (ownPostX Dk w.heap.size I Ix (pre ++ [x]) W) a' W)
    (hdone : ∀ (E : Nat) (xs : List α) (W : World), S xs → I xs W → w.heap.size ≤ E → W.heap[E]? = some (.deferred (some [])) → Q .normal { a with defers := { target := .collected E, args := #[] } :: a.defers } W)
    (hstop : ∀ (E : Nat) (c : Code) (pre : List α) (W : World), Sp pre → Ix c pre W → w.heap.size ≤ E → W.heap[E]? = some (.deferred (some [])) → c.wpIn Fence.wide 0 P Q { a with defers := { target := .collected E, args := #[] } :: a.defers } W) :
    (Code.rangeFunc g ps assign body).wpIn Fence.wide 0 P Q a w := by
  refine wpIn_rangeFunc ?_
  intro fn hfn
  let rec_ : LoopState → Option Code → Loop := fun st pe => { state := st, pending := pe, fn, tmps := a.tmps, params := ps, assign, body, defers := w.heap.size }
  obtain ⟨rec, hrec⟩ : ∃ r, r = rec_ := ⟨_, rfl⟩
  obtain ⟨W1, hW1⟩ : ∃ W1, (w.alloc (.deferred (some []))).alloc (.loop (rec .ready none)) = W1 := ⟨_, rfl⟩
  have hL1 : W1.heap[w.heap.size + 1]? = some (.loop (rec .ready none)) := by
    rw [← hW1]; have := World.alloc_heap_new (w.alloc (.deferred (some []))) (.loop (rec .ready none)); rwa [World.size_alloc] at this
  have hK1 : W1.heap[w.heap.size]? = some (.deferred (some [])) := by
    rw [← hW1]; exact (Below.heap_alloc _ _ _ (by simp)).trans (World.alloc_heap_new w _)
  have hS1 : W1.heap.size = w.heap.size + 2 := by rw [← hW1]; simp
  have hI1 : I [] W1 := by rw [← hW1]; exact hI.alloc _ (hI.alloc _ h0)
  have hR1 : RoundX (fun _ => False) 0 w W1 := by rw [← hW1]; exact RoundX.of_ext ((ext_alloc _ _).trans (ext_alloc _ _))
  refine ⟨w.heap.size + 1, [{ target := .collected w.heap.size, args := #[] }], W1, { target := .fn (.func gf) lb, args := #[.func (.yield (w.heap.size + 1)) #[] #[]] }, W1, gf,
    #[.func (.yield (w.heap.size + 1)) #[] #[]] ++ lb, W1, ?_, ?_, ?_, ?_, fun h => by simp [Fence.wide] at h, ?_⟩
  · rw [← hW1, hrec]; exact run_enterLoop_outer _ _ _ _ _
  · simp only [resolve, hg]
    simp [go_sem]
  · intro f' _; trivial
  · simp [invoke, go_sem, eg]
  have hput : ∀ (s : List α) (A : World) (o' : Obj) {o : Obj}, I s A → A.heap[w.heap.size + 1]? = some o → o.isCells = false → I s (A.putObj (w.heap.size + 1) o') := fun s A o' o hs ho hc => hI.put o' hs (Nat.le_succ _) ho hc
  have hputx : ∀ (c : Code) (s : List α) (A : World) (o' : Obj) {o : Obj}, Ix c s A → A.heap[w.heap.size + 1]? = some o → o.isCells = false → Ix c s (A.putObj (w.heap.size + 1) o') := fun c s A o' o hs ho hc => (hIx c).put o' hs (Nat.le_succ _) ho hc
  have hkeep : ∀ {A B : World} {row : Option Nat} (q : Nat), q < w.heap.size + 2 → w.heap.size ≤ q → A.grownBy B row → (∀ r, row = some r → D r ∨ (W1.heap.size ≤ r ∧ ∃ o : Obj, A.heap[r]? = some o ∧ o.isCells = false)) → ∀ o, A.heap[q]? = some o → B.heap[q]? = some o := fun q h1 h2 hgr hr o ho =>
    (hgr.block q (Array.getElem?_eq_some_iff.1 ho).1 (fun e => by
      rcases hr q e.symm with h | ⟨h, _⟩
      · have := hD q h; omega
      · omega)).trans ho
  refine (hseq (w.heap.size + 1)
    (fun pre W => I pre W ∧ W.heap[w.heap.size + 1]? = some (.loop (rec .ready none)) ∧ W.heap[w.heap.size]? = some (.deferred (some [])) ∧ w.heap.size ≤ W.heap.size)
    (fun pre W => ∃ c, Ix c pre W ∧ W.heap[w.heap.size + 1]? = some (.loop (rec .done (some c))) ∧ W.heap[w.heap.size]? = some (.deferred (some [])))
    W1 hR1 ?_ ?_ ?_ ⟨hI1, hL1, hK1, by omega⟩).mono ?_
  · rintro s A B row ⟨x1, x2, x3, x4⟩ hgr hr
    exact ⟨hI s A B row x1 hgr (fun r e => (hr r e).imp id fun ⟨p, q⟩ => ⟨by omega, q⟩), hkeep _ (by omega) (by omega) hgr hr _ x2, hkeep _ (by omega) (by omega) hgr hr _ x3, Nat.le_trans x4 hgr.size⟩
  · rintro s A B row ⟨c, x1, x2, x3⟩ hgr hr
    exact ⟨c, hIx c s A B row x1 hgr (fun r e => (hr r e).imp id fun ⟨p, q⟩ => ⟨by omega, q⟩), hkeep _ (by omega) (by omega) hgr hr _ x2, hkeep _ (by omega) (by omega) hgr hr _ x3⟩
  · -- one round
    rintro pre x W0 ⟨hi, hl, hk, hsz⟩ hlen
    have hy := run_yield (P := P) (args := encs x) hl (by rw [hrec]; exact hps x)
    refine ⟨fn, _, assign, body, by rw [hy, hrec], roundIn_of_wpIn hfn (hassign _ x W0 _ hsz ?_)⟩
    intro a' W hEW hax
    have hx0 : RoundX Dk W1.heap.size W0 W := RoundX.of_ext hEW
    replace hi : I pre W := hI _ _ _ none hi (grown_ext hEW) (fun r e => by cases e)
    replace hl := hEW.blk hl
    replace hk := hEW.blk hk
    replace hsz : w.heap.size ≤ W.heap.size := Nat.le_trans hsz hEW.size
    have hlt : w.heap.size + 1 < W.heap.size := (Array.getElem?_eq_some_iff.1 hl).1
    refine ⟨_, run_beginRound hl (by rw [hrec]), ?_⟩
    obtain ⟨W2, hW2⟩ : ∃ W2, W.putObj (w.heap.size + 1) (.loop { rec .ready none with state := .busy }) = W2 := ⟨_, rfl⟩
    have hl2 : W2.heap[w.heap.size + 1]? = some (.loop { rec .ready none with state := .busy }) := by rw [← hW2]; exact World.putObj_heap_same hlt
    have hk2 : W2.heap[w.heap.size]? = some (.deferred (some [])) := by rw [← hW2]; exact (World.putObj_heap_other (by omega)).trans hk
    have hi2 : I pre W2 := by rw [← hW2]; exact hput _ _ _ hi hl rfl
    have hax2 : Ax x a' W2 := by rw [← hW2]; exact hAx _ _ _ _ _ hax (grownBy_putObj' W _ _) (fun r e => by injection e with e; subst e; exact ⟨_, hl, rfl⟩)
    have hx2 : RoundX Dk W1.heap.size W0 W2 := by rw [← hW2]; exact hx0.trans (RoundX.put _ (by omega) hl rfl)
    have hs2 : w.heap.size ≤ W2.heap.size := by rw [← hW2]; simp [World.putObj]; exact hsz
    rw [hW2]
    refine wpIn_mono (hbody _ pre x _ _ hi2 hax2 hlen hs2) ?_
    have fin : ∀ (jump : Option Code) (W3 : World), RoundX Dk w.heap.size W2 W3 →
        (Instr.endRound (w.heap.size + 1) jump).run P W3 = .ok (.bool jump.isNone) (W3.putObj (w.heap.size + 1) (.loop (rec (if jump.isNone then .ready else .done) jump))) ∧
        W3.heap[w.heap.size + 1]? = some (.loop { rec .ready none with state := .busy }) ∧
        (W3.putObj (w.heap.size + 1) (.loop (rec (if jump.isNone then .ready else .done) jump))).heap[w.heap.size + 1]? = some (.loop (rec (if jump.isNone then .ready else .done) jump)) ∧
        (W3.putObj (w.heap.size + 1) (.loop (rec (if jump.isNone then .ready else .done) jump))).heap[w.heap.size]? = some (.deferred (some [])) ∧
        RoundX Dk W1.heap.size W0 (W3.putObj (w.heap.size + 1) (.loop (rec (if jump.isNone then .ready else .done) jump))) ∧ w.heap.size ≤ (W3.putObj (w.heap.size + 1) (.loop (rec (if jump.isNone then .ready else .done) jump))).heap.size := fun jump W3 h3 => by
      have hnd : ∀ q o, w.heap.size ≤ q → ¬ (Dk q ∨ (q < w.heap.size ∧ Obj.isCells o = false)) := fun q o hq e => by
        rcases e with e | ⟨e, _⟩
        · have := hDk q e; omega
        · omega
      have hl3 := h3.blk hl2 (hnd _ _ (by omega))
      have hk3 := h3.blk hk2 (hnd _ _ (by omega))
      have hr := run_endRound (P := P) jump hl3
      refine ⟨by rw [hr, hrec], hl3, World.putObj_heap_same (Array.getElem?_eq_some_iff.1 hl3).1, (World.putObj_heap_other (by omega)).trans hk3, ?_, ?_⟩
      · exact (hx2.trans (h3.mono (fun _ h => h) (by omega))).trans (RoundX.put _ (by omega) hl3 rfl)
      · have := h3.size; simp [World.putObj]; omega
    rintro e a3 W3 hp
    cases e with
    | normal =>
      obtain ⟨h3, hi3⟩ := hp
      obtain ⟨hr, hl3, hl4, hk4, hx4, hs4⟩ := fin none W3 h3
      exact ⟨_, _, hr, .inl ⟨rfl, ⟨hput _ _ _ hi3 hl3 rfl, hl4, hk4, hs4⟩, hx4⟩⟩
    | ret =>
      obtain ⟨h3, hi3⟩ := hp
      obtain ⟨hr, hl3, hl4, hk4, hx4, _⟩ := fin (some .ret) W3 h3
      exact ⟨_, _, hr, .inr ⟨rfl, ⟨.ret, hputx _ _ _ _ hi3 hl3 rfl, hl4, hk4⟩, hx4⟩⟩
    | exit id =>
      obtain ⟨h3, hi3⟩ := hp
      obtain ⟨hr, hl3, hl4, hk4, hx4, _⟩ := fin (some (.exit id)) W3 h3
      exact ⟨_, _, hr, .inr ⟨rfl, ⟨.exit id, hputx _ _ _ _ hi3 hl3 rfl, hl4, hk4⟩, hx4⟩⟩
    | goto t =>
      obtain ⟨h3, hi3⟩ := hp
      obtain ⟨hr, hl3, hl4, hk4, hx4, _⟩ := fin (some (.goto t)) W3 h3
      exact ⟨_, _, hr, .inr ⟨rfl, ⟨.goto t, hputx _ _ _ _ hi3 hl3 rfl, hl4, hk4⟩, hx4⟩⟩
    | panic ch => exact hp.elim
    | outgrown => exact hp.elim
  · -- behind the iterator
    rintro e W2 ⟨⟨v, rfl⟩, (⟨xs, hS, hi, hl, hk, hs⟩ | ⟨pre, hSp, c, hi, hl, hk⟩)⟩
    · exact ⟨none, _, by have := run_endLoop (P := P) hl (by rw [hrec]; simp [rec_]); rw [hrec] at this; exact this, hdone _ xs _ hS (hput _ _ _ hi hl rfl) (Nat.le_refl _) ((World.putObj_heap_other (by omega)).trans hk)⟩
    · exact ⟨some c, _, by have := run_endLoop (P := P) hl (by rw [hrec]; simp [rec_]); rw [hrec] at this; exact this, hstop _ c pre _ hSp (hputx _ _ _ _ hi hl rfl) (Nat.le_refl _) ((World.putObj_heap_other (by omega)).trans hk)⟩
/-- A round's promise within the round of another loop. -/
theorem YieldAt.inRound {P : Program} {l l2 : Nat} {args : Array Value} {W : World} {R : Ending → World → Prop} (h : YieldAt Fence.wide 0 P l args W R) : YieldAt (Fence.wide.inRound l2) 0 P l args W R := h
end Go.Proofs.Ytaalhicdeibodaa
