/- A loop in a fence whose frame gains deferred marks; a function that leaves with several marks. No condition. -/
import Derived.Test.YtaalhicdeibodaaItery
import Derived.LoopNIn
namespace Go.Proofs.Ytaalhicdeibodaa
open Go.RowKit Go.Proofs Go.Shelf
set_option linter.unusedVariables false
/-- The frame tm with some slots set. -/
def setAll (tm : Array Value) (l : List (Nat × Value)) : Array Value := l.foldl (fun t p => t.setIfInBounds p.1 p.2) tm
/-- What a round leaves. -/
def NextT (tm : Array Value) (sl : List Nat) (J : Nat → List Value → List Deferred → World → Prop) (n : Nat) (a : Act) (w : World) : Prop := ∃ n' us', n = n' + 1 ∧ us'.length = sl.length ∧ a.tmps = setAll tm (sl.zip us') ∧ J n' us' a.defers w
/-- A loop of n rounds at most, by the slots that its rounds write and by the marks it gains. -/
theorem wpIn_loop_tm {F : Fence} {k : Nat} {P : Program} {c : Code} {Q : Exit → Act → World → Prop} {tm : Array Value} {ds : List Deferred} {w : World} (sl : List Nat) (us0 : List Value) (J : Nat → List Value → List Deferred → World → Prop) (n0 : Nat)
    (hl0 : us0.length = sl.length) (htm : setAll tm (sl.zip us0) = tm) (h0 : J n0 us0 ds w)
    (hround : ∀ n us ds' w', us.length = sl.length → J n us ds' w' → c.wpIn F k P (Exit.then (NextT tm sl J n) Q) { tmps := setAll tm (sl.zip us), defers := ds' } w') :
    (Code.loop c).wpIn F k P Q { tmps := tm, defers := ds } w := by
  refine wpIn_loop_rounds (n0 + 1) ?_
  have key : ∀ n us ds' w', us.length = sl.length → J n us ds' w' → Code.roundsIn F k P c Q (n + 1) { tmps := setAll tm (sl.zip us), defers := ds' } w' := by
    intro n
    induction n with
    | zero =>
      intro us ds' w' hl hJ
      refine wpIn_mono (hround 0 us ds' w' hl hJ) ?_
      rintro e a3 W3 hp
      cases e with
      | normal =>
        obtain ⟨n', _, h, _⟩ := hp
        omega
      | _ => exact hp
    | succ n ih =>
      intro us ds' w' hl hJ
      refine wpIn_mono (hround (n + 1) us ds' w' hl hJ) ?_
      rintro e ⟨t3, d3⟩ W3 hp
      cases e with
      | normal =>
        obtain ⟨n', us', h, hl', ht, hJ'⟩ := hp
        obtain rfl : n = n' := by omega
        dsimp only at ht hJ'
        subst ht
        exact ih us' d3 W3 hl' hJ'
      | _ => exact hp
  have := key n0 us0 ds w hl0 h0
  rwa [htm] at this
/-- The same, where the round's post is a name of its own (so that the walk does not go through it). -/
theorem wpIn_loop_tq {F : Fence} {k : Nat} {P : Program} {c : Code} {Q : Exit → Act → World → Prop} {tm : Array Value} {ds : List Deferred} {w : World} (sl : List Nat) (us0 : List Value) (J : Nat → List Value → List Deferred → World → Prop) (n0 : Nat)
    (hl0 : us0.length = sl.length) (htm : setAll tm (sl.zip us0) = tm) (h0 : J n0 us0 ds w)
    (hround : ∀ (R : Exit → Act → World → Prop) n us ds' w', us.length = sl.length → J n us ds' w' → Hid (∀ us' ds2 w2, us'.length = sl.length → 0 < n → J (n - 1) us' ds2 w2 → R .normal { tmps := setAll tm (sl.zip us'), defers := ds2 } w2) → Hid (∀ e a w2, e ≠ .normal → Q e a w2 → R e a w2) → c.wpIn F k P R { tmps := setAll tm (sl.zip us), defers := ds' } w') :
    (Code.loop c).wpIn F k P Q { tmps := tm, defers := ds } w := by
  refine wpIn_loop_tm sl us0 J n0 hl0 htm h0 ?_
  intro n us ds' w' hl hJ
  refine hround _ n us ds' w' hl hJ (Lib.hid ?_) (Lib.hid ?_)
  · intro us' ds2 w2 h1 h2 h3
    exact ⟨n - 1, us', by omega, h1, rfl, h3⟩
  · intro e a w2 hne hq
    cases e with
    | normal => exact absurd rfl hne
    | _ => exact hq
/-- The end of such a round. -/
theorem round_end {R : Exit → Act → World → Prop} {tm t : Array Value} {sl : List Nat} {J : List Value → List Deferred → World → Prop} {n : Nat} {d : List Deferred} {w : World} (us : List Value) (hl : us.length = sl.length)
    (HR : Hid (∀ us' ds2 w2, us'.length = sl.length → 0 < n → J us' ds2 w2 → R .normal { tmps := setAll tm (sl.zip us'), defers := ds2 } w2)) (hn : 0 < n) (e : setAll tm (sl.zip us) = t) (hJ : J us d w) : R .normal { tmps := t, defers := d } w := by
  have := HR.out us d w hl hn hJ
  rwa [e] at this
/-- The law of the statement, where the round's frame is the elder one with some slots set. -/
theorem wpIn_rangeZ {α : Type} {P : Program} {g : Operand} {ps : Array Tmp} {assign body : Code} {Q : Exit → Act → World → Prop} {a : Act} {w : World}
    {gf : Nat} {lb : Array Value} (hg : a.eval g = .func (.func gf) #[] lb) (eg : ∀ args w, (callFunc gf args).run P w = .ok (.enter gf args) w)
    {encs : α → Array Value} {D Dk : Nat → Prop} {S Sp : List α → Prop} (hseq : SeqX P gf lb encs D Dk S Sp w) (hD : ∀ q, D q → q < w.heap.size) (hDk0 : ¬ Dk w.heap.size) (hDk1 : ¬ Dk (w.heap.size + 1)) (hps : ∀ x, (encs x).size = ps.size)
    (I : List α → World → Prop) (Ix : Code → List α → World → Prop) (hI : AbidesX w.heap.size D I) (hIx : ∀ c, AbidesX w.heap.size D (Ix c)) (h0 : I [] w) (sl : α → List (Nat × Value))
    (hassign : ∀ (l : Nat) (x : α) (W : World) (K : Act → World → Prop), w.heap.size + 2 ≤ W.heap.size → K { tmps := setAll a.tmps (sl x), defers := [] } W →
      assign.wpIn (Fence.wide.inRound l) 0 P (Exit.then K (fun _ _ _ => False)) { tmps := (ps.zip (encs x)).foldl (fun t (p, v) => t.setIfInBounds p v) a.tmps, defers := [] } W)
    (hbody : ∀ (l : Nat) (pre : List α) (x : α) (W : World), I pre W → Sp (pre ++ [x]) → w.heap.size + 2 ≤ W.heap.size → body.wpIn (Fence.wide.inRound l) 0 P (ownPostX Dk w.heap.size I Ix (pre ++ [x]) W) { tmps := setAll a.tmps (sl x), defers := [] } W)
    (hdone : ∀ (E : Nat) (xs : List α) (W : World), S xs → I xs W → w.heap.size ≤ E → W.heap[E]? = some (.deferred (some [])) → Q .normal { a with defers := { target := .collected E, args := #[] } :: a.defers } W)
    (hstop : ∀ (E : Nat) (c : Code) (pre : List α) (W : World), Sp pre → Ix c pre W → w.heap.size ≤ E → W.heap[E]? = some (.deferred (some [])) → c.wpIn Fence.wide 0 P Q { a with defers := { target := .collected E, args := #[] } :: a.defers } W) :
    (Code.rangeFunc g ps assign body).wpIn Fence.wide 0 P Q a w := by
  refine wpIn_rangeY hg eg hseq hD hDk0 hDk1 hps I Ix hI hIx h0 (fun x a' _ => a' = { tmps := setAll a.tmps (sl x), defers := [] }) (fun x a' A B row h _ _ => h) ?_ ?_ hdone hstop
  · intro l x W K hs hK
    exact hassign l x W K hs (hK _ W (Below.refl _ _) rfl)
  · rintro l pre x a' W h1 rfl h3 h4
    exact hbody l pre x W h1 h3 h4
/-- The marks of ranges over functions. -/
def marksD (Es : List Nat) : List Deferred := Es.map fun E => { target := .collected E, args := #[] }
theorem leaves_marks {F : Fence} {n : Nat} {P : Program} {fn : Func} {tmps : Array Value} {R : Ending → World → Prop} : ∀ (Es : List Nat) (w : World), Es.Nodup → (∀ E ∈ Es, w.heap[E]? = some (.deferred (some []))) →
    (∀ w', (∀ q, q ∉ Es → w'.heap[q]? = w.heap[q]?) → w'.os = w.os → w'.tape = w.tape → w'.output = w.output → w'.heap.size = w.heap.size → LeavesIn F n P fn tmps R [] .returning w') → LeavesInM F n P fn tmps R (marksD Es) .returning w
  | [], w, _, _, h => h w (fun _ _ => rfl) rfl rfl rfl rfl
  | E :: Es, w, hn, hE, h => by
    obtain ⟨h1, h2⟩ := List.nodup_cons.1 hn
    have hk := hE E (List.mem_cons_self ..)
    refine ⟨by simp, .inl ⟨E, _, rfl, run_takeDeferred hk, ?_⟩⟩
    refine leaves_marks Es _ h2 (fun E' hm => ?_) (fun w' g1 g2 g3 g4 g5 => h w' (fun q hq => ?_) g2 g3 g4 (by rw [g5]; simp [World.putObj]))
    · have hne : E' ≠ E := fun e => h1 (e ▸ hm)
      rw [World.putObj_heap_other hne]
      exact hE E' (List.mem_cons_of_mem _ hm)
    · have hne : q ≠ E := fun e => hq (by rw [e]; exact List.mem_cons_self ..)
      rw [g1 q (fun e => hq (List.mem_cons_of_mem _ e)), World.putObj_heap_other hne]
end Go.Proofs.Ytaalhicdeibodaa
