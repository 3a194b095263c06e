/- Ranges over functions, where a round turns what it has laid itself. No condition. -/
import Derived.Test.YtaalhicdeibodaaIter
import Derived.Test.YtaalhicdeibodaaAparw
namespace Go.Proofs.Ytaalhicdeibodaa
open Go.RowKit Go.Proofs Go.Shelf
set_option linter.unusedVariables false
/-- The law of the statement, where a round may also turn what it has laid itself. -/
theorem wpIn_rangeY {α : Type} {P : Program} {g : Operand} {ps : Array Tmp} {assign body : Code} {Q : Exit → Act → World → Prop} {a : Act} {w : World}
    {gf : Nat} {lb : Array Value} (hg : a.eval g = .func (.func gf) #[] lb) (eg : ∀ args w, (callFunc gf args).run P w = .ok (.enter gf args) w)
    {encs : α → Array Value} {D Dk : Nat → Prop} {S Sp : List α → Prop} (hseq : SeqX P gf lb encs D Dk S Sp w) (hD : ∀ q, D q → q < w.heap.size) (hDk0 : ¬ Dk w.heap.size) (hDk1 : ¬ Dk (w.heap.size + 1)) (hps : ∀ x, (encs x).size = ps.size)
    (I : List α → World → Prop) (Ix : Code → List α → World → Prop) (hI : AbidesX w.heap.size D I) (hIx : ∀ c, AbidesX w.heap.size D (Ix c)) (h0 : I [] w) (Ax : α → Act → World → Prop) (hAx : ∀ x a' A B row, Ax x a' A → A.grownBy B row → (∀ r, row = some r → ∃ o : Obj, A.heap[r]? = some o ∧ o.isCells = false) → Ax x a' B)
    (hassign : ∀ (l : Nat) (x : α) (W : World) (K : Act → World → Prop), w.heap.size + 2 ≤ W.heap.size → (∀ a' W', Ext W W' → Ax x a' W' → K a' W') →
      assign.wpIn (Fence.wide.inRound l) 0 P (Exit.then K (fun _ _ _ => False)) { tmps := (ps.zip (encs x)).foldl (fun t (p, v) => t.setIfInBounds p v) a.tmps, defers := [] } W)
    (hbody : ∀ (l : Nat) (pre : List α) (x : α) (a' : Act) (W : World), I pre W → Ax x a' W → Sp (pre ++ [x]) → w.heap.size + 2 ≤ W.heap.size → body.wpIn (Fence.wide.inRound l) 0 P (ownPostX Dk w.heap.size I Ix (pre ++ [x]) W) a' W)
    (hdone : ∀ (E : Nat) (xs : List α) (W : World), S xs → I xs W → w.heap.size ≤ E → W.heap[E]? = some (.deferred (some [])) → Q .normal { a with defers := { target := .collected E, args := #[] } :: a.defers } W)
    (hstop : ∀ (E : Nat) (c : Code) (pre : List α) (W : World), Sp pre → Ix c pre W → w.heap.size ≤ E → W.heap[E]? = some (.deferred (some [])) → c.wpIn Fence.wide 0 P Q { a with defers := { target := .collected E, args := #[] } :: a.defers } W) :
    (Code.rangeFunc g ps assign body).wpIn Fence.wide 0 P Q a w := by
  refine wpIn_rangeFunc ?_
  intro fn hfn
  let rec_ : LoopState → Option Code → Loop := fun st pe => { state := st, pending := pe, fn, tmps := a.tmps, params := ps, assign, body, defers := w.heap.size }
  obtain ⟨rec, hrec⟩ : ∃ r, r = rec_ := ⟨_, rfl⟩
  obtain ⟨W1, hW1⟩ : ∃ W1, (w.alloc (.deferred (some []))).alloc (.loop (rec .ready none)) = W1 := ⟨_, rfl⟩
  have hL1 : W1.heap[w.heap.size + 1]? = some (.loop (rec .ready none)) := by
    rw [← hW1]; have := World.alloc_heap_new (w.alloc (.deferred (some []))) (.loop (rec .ready none)); rwa [World.size_alloc] at this
  have hK1 : W1.heap[w.heap.size]? = some (.deferred (some [])) := by
    rw [← hW1]; exact (Below.heap_alloc _ _ _ (by simp)).trans (World.alloc_heap_new w _)
  have hS1 : W1.heap.size = w.heap.size + 2 := by rw [← hW1]; simp
  have hI1 : I [] W1 := by rw [← hW1]; exact hI.alloc _ (hI.alloc _ h0)
  have hR1 : RoundX (fun _ => False) 0 w W1 := by rw [← hW1]; exact RoundX.of_ext ((ext_alloc _ _).trans (ext_alloc _ _))
  refine ⟨w.heap.size + 1, [{ target := .collected w.heap.size, args := #[] }], W1, { target := .fn (.func gf) lb, args := #[.func (.yield (w.heap.size + 1)) #[] #[]] }, W1, gf,
    #[.func (.yield (w.heap.size + 1)) #[] #[]] ++ lb, W1, ?_, ?_, ?_, ?_, fun h => by simp [Fence.wide] at h, ?_⟩
  · rw [← hW1, hrec]; exact run_enterLoop_outer _ _ _ _ _
  · simp only [resolve, hg]
    simp [go_sem]
  · intro f' _; trivial
  · simp [invoke, go_sem, eg]
  have hput : ∀ (s : List α) (A : World) (o' : Obj) {o : Obj}, I s A → A.heap[w.heap.size + 1]? = some o → o.isCells = false → I s (A.putObj (w.heap.size + 1) o') := fun s A o' o hs ho hc => hI.put o' hs (Nat.le_succ _) ho hc
  have hputx : ∀ (c : Code) (s : List α) (A : World) (o' : Obj) {o : Obj}, Ix c s A → A.heap[w.heap.size + 1]? = some o → o.isCells = false → Ix c s (A.putObj (w.heap.size + 1) o') := fun c s A o' o hs ho hc => (hIx c).put o' hs (Nat.le_succ _) ho hc
  have hkeep : ∀ {A B : World} {row : Option Nat} (q : Nat), q < w.heap.size + 2 → w.heap.size ≤ q → A.grownBy B row → (∀ r, row = some r → D r ∨ (W1.heap.size ≤ r ∧ ∃ o : Obj, A.heap[r]? = some o ∧ o.isCells = false)) → ∀ o, A.heap[q]? = some o → B.heap[q]? = some o := fun q h1 h2 hgr hr o ho =>
    (hgr.block q (Array.getElem?_eq_some_iff.1 ho).1 (fun e => by
      rcases hr q e.symm with h | ⟨h, _⟩
      · have := hD q h; omega
      · omega)).trans ho
  refine (hseq (w.heap.size + 1)
    (fun pre W => I pre W ∧ W.heap[w.heap.size + 1]? = some (.loop (rec .ready none)) ∧ W.heap[w.heap.size]? = some (.deferred (some [])) ∧ w.heap.size ≤ W.heap.size)
    (fun pre W => ∃ c, Ix c pre W ∧ W.heap[w.heap.size + 1]? = some (.loop (rec .done (some c))) ∧ W.heap[w.heap.size]? = some (.deferred (some [])))
    W1 hR1 ?_ ?_ ?_ ⟨hI1, hL1, hK1, by omega⟩).mono ?_
  · rintro s A B row ⟨x1, x2, x3, x4⟩ hgr hr
    exact ⟨hI s A B row x1 hgr (fun r e => (hr r e).imp id fun ⟨p, q⟩ => ⟨by omega, q⟩), hkeep _ (by omega) (by omega) hgr hr _ x2, hkeep _ (by omega) (by omega) hgr hr _ x3, Nat.le_trans x4 hgr.size⟩
  · rintro s A B row ⟨c, x1, x2, x3⟩ hgr hr
    exact ⟨c, hIx c s A B row x1 hgr (fun r e => (hr r e).imp id fun ⟨p, q⟩ => ⟨by omega, q⟩), hkeep _ (by omega) (by omega) hgr hr _ x2, hkeep _ (by omega) (by omega) hgr hr _ x3⟩
  · -- one round
    rintro pre x W0 ⟨hi, hl, hk, hsz⟩ hlen
    have hy := run_yield (P := P) (args := encs x) hl (by rw [hrec]; exact hps x)
    refine ⟨fn, _, assign, body, by rw [hy, hrec], roundIn_of_wpIn hfn (hassign _ x W0 _ (by have := (Array.getElem?_eq_some_iff.1 hl).1; omega) ?_)⟩
    intro a' W hEW hax
    have hx0 : RoundX Dk W1.heap.size W0 W := RoundX.of_ext hEW
    replace hi : I pre W := hI _ _ _ none hi (grown_ext hEW) (fun r e => by cases e)
    replace hl := hEW.blk hl
    replace hk := hEW.blk hk
    replace hsz : w.heap.size ≤ W.heap.size := Nat.le_trans hsz hEW.size
    have hlt : w.heap.size + 1 < W.heap.size := (Array.getElem?_eq_some_iff.1 hl).1
    refine ⟨_, run_beginRound hl (by rw [hrec]), ?_⟩
    obtain ⟨W2, hW2⟩ : ∃ W2, W.putObj (w.heap.size + 1) (.loop { rec .ready none with state := .busy }) = W2 := ⟨_, rfl⟩
    have hl2 : W2.heap[w.heap.size + 1]? = some (.loop { rec .ready none with state := .busy }) := by rw [← hW2]; exact World.putObj_heap_same hlt
    have hk2 : W2.heap[w.heap.size]? = some (.deferred (some [])) := by rw [← hW2]; exact (World.putObj_heap_other (by omega)).trans hk
    have hi2 : I pre W2 := by rw [← hW2]; exact hput _ _ _ hi hl rfl
    have hax2 : Ax x a' W2 := by rw [← hW2]; exact hAx _ _ _ _ _ hax (grownBy_putObj' W _ _) (fun r e => by injection e with e; subst e; exact ⟨_, hl, rfl⟩)
    have hx2 : RoundX Dk W1.heap.size W0 W2 := by rw [← hW2]; exact hx0.trans (RoundX.put _ (by omega) hl rfl)
    have hs2 : w.heap.size ≤ W2.heap.size := by rw [← hW2]; simp [World.putObj]; exact hsz
    rw [hW2]
    refine wpIn_mono (hbody _ pre x _ _ hi2 hax2 hlen (by have := (Array.getElem?_eq_some_iff.1 hl2).1; omega)) ?_
    have fin : ∀ (jump : Option Code) (W3 : World), RoundX Dk w.heap.size W2 W3 →
        (Instr.endRound (w.heap.size + 1) jump).run P W3 = .ok (.bool jump.isNone) (W3.putObj (w.heap.size + 1) (.loop (rec (if jump.isNone then .ready else .done) jump))) ∧
        W3.heap[w.heap.size + 1]? = some (.loop { rec .ready none with state := .busy }) ∧
        (W3.putObj (w.heap.size + 1) (.loop (rec (if jump.isNone then .ready else .done) jump))).heap[w.heap.size + 1]? = some (.loop (rec (if jump.isNone then .ready else .done) jump)) ∧
        (W3.putObj (w.heap.size + 1) (.loop (rec (if jump.isNone then .ready else .done) jump))).heap[w.heap.size]? = some (.deferred (some [])) ∧
        RoundX Dk W1.heap.size W0 (W3.putObj (w.heap.size + 1) (.loop (rec (if jump.isNone then .ready else .done) jump))) ∧ w.heap.size ≤ (W3.putObj (w.heap.size + 1) (.loop (rec (if jump.isNone then .ready else .done) jump))).heap.size := fun jump W3 h3 => by
      have hl3 := h3.blk hl2 (fun e => e.elim hDk1 (fun e => by have := e.1; omega))
      have hk3 := h3.blk hk2 (fun e => e.elim hDk0 (fun e => by have := e.1; omega))
      have hr := run_endRound (P := P) jump hl3
      refine ⟨by rw [hr, hrec], hl3, World.putObj_heap_same (Array.getElem?_eq_some_iff.1 hl3).1, (World.putObj_heap_other (by omega)).trans hk3, ?_, ?_⟩
      · exact (hx2.trans (h3.mono (fun _ h => h) (by omega))).trans (RoundX.put _ (by omega) hl3 rfl)
      · have := h3.size; simp [World.putObj]; omega
    rintro e a3 W3 hp
    cases e with
    | normal =>
      obtain ⟨h3, hi3⟩ := hp
      obtain ⟨hr, hl3, hl4, hk4, hx4, hs4⟩ := fin none W3 h3
      exact ⟨_, _, hr, .inl ⟨rfl, ⟨hput _ _ _ hi3 hl3 rfl, hl4, hk4, hs4⟩, hx4⟩⟩
    | ret =>
      obtain ⟨h3, hi3⟩ := hp
      obtain ⟨hr, hl3, hl4, hk4, hx4, _⟩ := fin (some .ret) W3 h3
      exact ⟨_, _, hr, .inr ⟨rfl, ⟨.ret, hputx _ _ _ _ hi3 hl3 rfl, hl4, hk4⟩, hx4⟩⟩
    | exit id =>
      obtain ⟨h3, hi3⟩ := hp
      obtain ⟨hr, hl3, hl4, hk4, hx4, _⟩ := fin (some (.exit id)) W3 h3
      exact ⟨_, _, hr, .inr ⟨rfl, ⟨.exit id, hputx _ _ _ _ hi3 hl3 rfl, hl4, hk4⟩, hx4⟩⟩
    | goto t =>
      obtain ⟨h3, hi3⟩ := hp
      obtain ⟨hr, hl3, hl4, hk4, hx4, _⟩ := fin (some (.goto t)) W3 h3
      exact ⟨_, _, hr, .inr ⟨rfl, ⟨.goto t, hputx _ _ _ _ hi3 hl3 rfl, hl4, hk4⟩, hx4⟩⟩
    | panic ch => exact hp.elim
    | outgrown => exact hp.elim
  · -- behind the iterator
    rintro e W2 ⟨⟨v, rfl⟩, (⟨xs, hS, hi, hl, hk, hs⟩ | ⟨pre, hSp, c, hi, hl, hk⟩)⟩
    · exact ⟨none, _, by have := run_endLoop (P := P) hl (by rw [hrec]; simp [rec_]); rw [hrec] at this; exact this, hdone _ xs _ hS (hput _ _ _ hi hl rfl) (Nat.le_refl _) ((World.putObj_heap_other (by omega)).trans hk)⟩
    · exact ⟨some c, _, by have := run_endLoop (P := P) hl (by rw [hrec]; simp [rec_]); rw [hrec] at this; exact this, hstop _ c pre _ hSp (hputx _ _ _ _ hi hl rfl) (Nat.le_refl _) ((World.putObj_heap_other (by omega)).trans hk)⟩
/-- An append onto a row of the call's own: it stays where it lies, or a new row is laid and the old one stays as it was. -/
theorem wpListIn_append_apart {F : Fence} {nn : Nat} {w : World} {P : Program} {ops : Array Oper} {rest : List Oper} {o : Oper} {a : Act} {Q : Exit → Act → World → Prop} (hgd : o.guard = none) (s x : Operand) (t : TypeId)
    (ho : o.op = .call { callee := .builtin .append, args := #[s, x], argTypes := #[t, t] })
    (base : Nat) (e : TypeId) (i : TypeInfo) (z : Value) (size bytes : Nat) (ht : P.underlying t = some (.slice e)) (hi : P.info? e = some i) (hz : i.zero = some z)
    (hsize : i.size = size) (hby : i.bytes = bytes) (hzs : z.cells.size = size) (hsz : 0 < size)
    (v : Value) (n : Nat) (xs : List Value) (hs : a.eval s = v) (hown : w.ownsRow base e size v n xs)
    (ad : Addr) (m c : Nat) (news : List Value) (hx : a.eval x = .slice (some ad) m c) (hl : news.length = m * size) (hnews : ∀ j u, news[j]? = some u → w.cell? (ad.add j) = some u) (h1 : ∀ u ∈ news, u.oneCell' = true)
    (hm : 0 < m) (h63 : n + m ≤ maxLen) (hbytes : (n + m) * bytes ≤ 140737488355328) (hbase : base ≤ w.heap.size)
    (h : ∀ v' w', w'.ownsRow base e size v' (n + m) (xs ++ news) → ((∃ A c, v = .slice A n c ∧ v' = .slice A (n + m) c ∧ w.grownBy w' v.ownBlock) ∨ (w.grownBy w' none ∧ ∀ g, v'.ownBlock = some g → w.heap.size ≤ g)) → wpListIn F nn P ops Q rest (a.put o.dst v') w') : wpListIn F nn P ops Q (o :: rest) a w := by
  have key : ∃ v' w', (Builtin.append_ #[t, t] o.type #[v, .slice (some ad) m c]).run P w = .ok v' w' ∧ w'.ownsRow base e size v' (n + m) (xs ++ news) ∧ ((∃ A c, v = .slice A n c ∧ v' = .slice A (n + m) c ∧ w.grownBy w' v.ownBlock) ∨ (w.grownBy w' none ∧ ∀ g, v'.ownBlock = some g → w.heap.size ≤ g)) := by
    rcases hown.2 with ⟨rfl, h0⟩ | ⟨g, cap, cur, rfl, hb, hg, hle, hmx, hcs, htk⟩
    · obtain ⟨v', w', hr, h2, h3, h4, h5⟩ := run_append_own_at (P := P) w base t o.type e i z size bytes ht hi hz hsize hby hzs hsz _ n xs hown ad m c news hl hnews h1 h63 hbytes hbase
      refine ⟨v', w', hr, h2, .inr ⟨h3, fun g hg => ?_⟩⟩
      rcases h5 with h5 | h5
      · rw [h5] at hg; cases hg
      · rw [h5] at hg; injection hg with hg; omega
    · by_cases hr : n + m ≤ cap
      · obtain ⟨w', hrun, h2, h3⟩ := run_append_fits (P := P) w base t o.type e i size ht hi hsize g n cap xs hown ad m c news hl hnews h1 hr
        exact ⟨_, w', hrun, h2, .inl ⟨_, _, rfl, rfl, h3⟩⟩
      · obtain ⟨v', w', hrun, h2, h3⟩ := run_append_arg_grows (P := P) w t o.type e i z size bytes ht hi hz hsize hby hzs hsz ⟨g, 0, none⟩ n cap xs hown.1 (hown.cells rfl) ad m c news hl hnews (by omega) h63 hbytes
        exact ⟨v', w', hrun, own_mono h2 hbase, .inr ⟨h3, fun g' hg' => (h2.lt g' hg').1⟩⟩
  obtain ⟨v', w', hr, h2, h3⟩ := key
  refine wpListIn_plain hgd fun K hK' => ?_
  unfold Oper.wpIn
  refine ⟨?_, ?_⟩
  · simp [Oper.about, ho, resolve, Target.leads, Sem.run_pure]
  · rw [Oper.semAt_plain F _ _ (by rw [ho]; intro c hc'; cases hc')]
    simp [execOp, ho, resolve, invoke, builtin, hs, hx, hr, Result.andThen]
    exact hK' _ _ (h v' w' h2 h3)
end Go.Proofs.Ytaalhicdeibodaa
