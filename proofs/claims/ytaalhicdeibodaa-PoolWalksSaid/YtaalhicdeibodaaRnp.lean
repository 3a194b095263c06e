/- Sets of whole numbers as runs: plain laws. No program. -/
import Derived.Lib.Hide
namespace Go.Proofs.Ytaalhicdeibodaa
set_option linter.unusedVariables false
structure Rn where
  lo : Int
  hi : Int
deriving DecidableEq
/-- Is a number in one of the runs? -/
def memR (L : List Rn) (x : Int) : Prop := ∃ r ∈ L, r.lo ≤ x ∧ x ≤ r.hi
/-- The fewest runs, rising. -/
def WfR : List Rn → Prop
  | [] => True
  | r :: L => r.lo ≤ r.hi ∧ (∀ s ∈ L, r.hi + 1 < s.lo) ∧ WfR L
theorem WfR.each : ∀ {L : List Rn}, WfR L → ∀ r ∈ L, r.lo ≤ r.hi
  | [], _, r, h => by cases h
  | s :: L, hw, r, h => by
    rcases List.mem_cons.1 h with rfl | h
    · exact hw.1
    · exact hw.2.2.each r h
theorem WfR.least {r : Rn} {L : List Rn} (hw : WfR (r :: L)) {x : Int} (h : memR (r :: L) x) : r.lo ≤ x := by
  obtain ⟨s, hs, h1, h2⟩ := h
  rcases List.mem_cons.1 hs with rfl | hs
  · exact h1
  · have := hw.2.1 s hs
    have := hw.1
    omega
theorem WfR.not_next {r : Rn} {L : List Rn} (hw : WfR (r :: L)) : ¬ memR (r :: L) (r.hi + 1) := by
  rintro ⟨s, hs, h1, h2⟩
  rcases List.mem_cons.1 hs with rfl | hs
  · omega
  · have := hw.2.1 s hs; omega
theorem WfR.tail_gt {r : Rn} {L : List Rn} (hw : WfR (r :: L)) {x : Int} (h : memR L x) : r.hi + 1 < x := by
  obtain ⟨s, hs, h1, h2⟩ := h
  have := hw.2.1 s hs
  omega
/-- The runs of a set are fixed by its numbers. -/
theorem wf_unique : ∀ {L M : List Rn}, WfR L → WfR M → (∀ x, memR L x ↔ memR M x) → L = M
  | [], [], _, _, _ => rfl
  | [], m :: M, _, hm, h => by
    have := (h m.lo).2 ⟨m, List.mem_cons_self, Int.le_refl _, hm.1⟩
    obtain ⟨_, h, _⟩ := this
    cases h
  | l :: L, [], hl, _, h => by
    have := (h l.lo).1 ⟨l, List.mem_cons_self, Int.le_refl _, hl.1⟩
    obtain ⟨_, h, _⟩ := this
    cases h
  | l :: L, m :: M, hl, hm, h => by
    have e1 : l.lo = m.lo := by
      have a := hm.least ((h l.lo).1 ⟨l, List.mem_cons_self, Int.le_refl _, hl.1⟩)
      have b := hl.least ((h m.lo).2 ⟨m, List.mem_cons_self, Int.le_refl _, hm.1⟩)
      omega
    have e2 : l.hi = m.hi := by
      rcases Int.lt_trichotomy l.hi m.hi with hlt | he | hgt
      · exact absurd ((h (l.hi + 1)).2 ⟨m, List.mem_cons_self, by have := hl.1; omega, by omega⟩) hl.not_next
      · exact he
      · exact absurd ((h (m.hi + 1)).1 ⟨l, List.mem_cons_self, by have := hm.1; omega, by omega⟩) hm.not_next
    have e3 : l = m := by cases l; cases m; simp_all
    subst e3
    have ht : ∀ x, memR L x ↔ memR M x := fun x => by
      constructor
      · intro hx
        obtain ⟨s, hs, h1, h2⟩ := (h x).1 (by obtain ⟨s, hs, k⟩ := hx; exact ⟨s, List.mem_cons_of_mem _ hs, k⟩)
        rcases List.mem_cons.1 hs with rfl | hs
        · have := hl.tail_gt hx; omega
        · exact ⟨s, hs, h1, h2⟩
      · intro hx
        obtain ⟨s, hs, h1, h2⟩ := (h x).2 (by obtain ⟨s, hs, k⟩ := hx; exact ⟨s, List.mem_cons_of_mem _ hs, k⟩)
        rcases List.mem_cons.1 hs with rfl | hs
        · have := hm.tail_gt hx; omega
        · exact ⟨s, hs, h1, h2⟩
    rw [wf_unique hl.2.2 hm.2.2 ht]
theorem wf_append : ∀ {L M : List Rn}, WfR L → WfR M → (∀ r ∈ L, ∀ s ∈ M, r.hi + 1 < s.lo) → WfR (L ++ M)
  | [], _, _, hm, _ => hm
  | r :: L, M, hl, hm, h => ⟨hl.1, fun s hs => by
      rcases List.mem_append.1 hs with hs | hs
      · exact hl.2.1 s hs
      · exact h r List.mem_cons_self s hs, wf_append hl.2.2 hm (fun a ha => h a (List.mem_cons_of_mem _ ha))⟩
theorem wf_split : ∀ {L M : List Rn}, WfR (L ++ M) → WfR L ∧ WfR M ∧ ∀ r ∈ L, ∀ s ∈ M, r.hi + 1 < s.lo
  | [], _, h => ⟨trivial, h, fun r hr => by cases hr⟩
  | r :: L, M, h => by
    obtain ⟨h1, h2, h3⟩ := h
    obtain ⟨a, b, c⟩ := wf_split h3
    refine ⟨⟨h1, fun s hs => h2 s (List.mem_append.2 (.inl hs)), a⟩, b, fun q hq s hs => ?_⟩
    rcases List.mem_cons.1 hq with rfl | hq
    · exact h2 s (List.mem_append.2 (.inr hs))
    · exact c q hq s hs
theorem mem_append' {L M : List Rn} {x : Int} : memR (L ++ M) x ↔ memR L x ∨ memR M x := by
  constructor
  · rintro ⟨s, hs, h⟩
    rcases List.mem_append.1 hs with hs | hs
    · exact .inl ⟨s, hs, h⟩
    · exact .inr ⟨s, hs, h⟩
  · rintro (⟨s, hs, h⟩ | ⟨s, hs, h⟩)
    · exact ⟨s, List.mem_append.2 (.inl hs), h⟩
    · exact ⟨s, List.mem_append.2 (.inr hs), h⟩
theorem mem_one {r : Rn} {x : Int} : memR [r] x ↔ r.lo ≤ x ∧ x ≤ r.hi :=
  ⟨fun ⟨s, hs, h⟩ => by
    rcases List.mem_cons.1 hs with rfl | hs
    · exact h
    · exact absurd hs (by simp), fun h => ⟨r, List.mem_cons_self, h⟩⟩
theorem mem_nil {x : Int} : ¬ memR [] x := fun ⟨_, h, _⟩ => by cases h
/-! ### Add -/
/-- What Add's loop has made of the runs so far: those below, the one, those above. -/
structure AddS where
  below : List Rn
  r : Rn
  above : List Rn
def AddS.step (s : AddS) (x : Rn) : AddS :=
  if x.hi + 1 < s.r.lo then { s with below := s.below ++ [x] }
  else if s.r.hi + 1 < x.lo then { s with above := s.above ++ [x] }
  else { s with r := ⟨min s.r.lo x.lo, max s.r.hi x.hi⟩ }
theorem step_mk (b a : List Rn) (r x : Rn) : AddS.step ⟨b, r, a⟩ x = if x.hi + 1 < r.lo then ⟨b ++ [x], r, a⟩ else if r.hi + 1 < x.lo then ⟨b, r, a ++ [x]⟩ else ⟨b, ⟨min r.lo x.lo, max r.hi x.hi⟩, a⟩ := rfl
def AddS.all (s : AddS) : List Rn := s.below ++ [s.r] ++ s.above
def addS (L : List Rn) (r : Rn) : AddS := L.foldl AddS.step ⟨[], r, []⟩
/-- The runs behind Add. -/
def addL (L : List Rn) (r : Rn) : List Rn := if r.lo ≤ r.hi then (addS L r).all else L
structure AddOk (P : List Rn) (r0 : Rn) (s : AddS) : Prop where
  wf : WfR s.all
  mem : ∀ x, memR s.all x ↔ memR P x ∨ (r0.lo ≤ x ∧ x ≤ r0.hi)
  below : ∀ b ∈ s.below, b ∈ P
  above : ∀ b ∈ s.above, b ∈ P
theorem AddOk.next {P : List Rn} {r0 : Rn} {s : AddS} (h : AddOk P r0 s) {x : Rn} (hx : x.lo ≤ x.hi) (hP : ∀ p ∈ P, p.hi + 1 < x.lo) : AddOk (P ++ [x]) r0 (s.step x) := by
  obtain ⟨B, r, A⟩ := s
  obtain ⟨h1, h2, h3, h4⟩ := h
  simp only [AddS.all] at h1 h2 h3 h4
  obtain ⟨w1, wA, sA⟩ := wf_split h1
  obtain ⟨wB, wr, sB⟩ := wf_split w1
  have hr : r.lo ≤ r.hi := wr.1
  have hBr : ∀ b ∈ B, b.hi + 1 < r.lo := fun b hb => sB b hb r List.mem_cons_self
  have hrA : ∀ a ∈ A, r.hi + 1 < a.lo := fun a ha => sA r (List.mem_append.2 (.inr List.mem_cons_self)) a ha
  have hBA : ∀ b ∈ B, ∀ a ∈ A, b.hi + 1 < a.lo := fun b hb a ha => sA b (List.mem_append.2 (.inl hb)) a ha
  have hmx : ∀ y, memR (P ++ [x]) y ↔ memR P y ∨ (x.lo ≤ y ∧ y ≤ x.hi) := fun y => by rw [mem_append', mem_one]
  unfold AddS.step
  simp only
  by_cases c1 : x.hi + 1 < r.lo
  · rw [if_pos c1]
    have hA0 : A = [] := by
      cases A with
      | nil => rfl
      | cons a A =>
        have e1 := hrA a List.mem_cons_self
        have e2 := hP a (h4 a List.mem_cons_self)
        have e3 := wA.1
        omega
    subst hA0
    refine ⟨?_, fun y => ?_, fun b hb => ?_, fun b hb => by cases hb⟩
    · simp only [AddS.all, List.append_nil]
      refine wf_append (wf_append wB ⟨hx, fun _ h => (by cases h), trivial⟩ (fun b hb s hs => ?_)) wr (fun b hb s hs => ?_)
      · rcases List.mem_cons.1 hs with rfl | hs
        · exact hP b (h3 b hb)
        · cases hs
      · rcases List.mem_cons.1 hs with rfl | hs
        · rcases List.mem_append.1 hb with hb | hb
          · exact hBr b hb
          · rcases List.mem_cons.1 hb with rfl | hb
            · exact c1
            · cases hb
        · cases hs
    · have := h2 y
      simp only [AddS.all, List.append_nil, mem_append', mem_one] at this ⊢
      constructor
      · rintro ((h | h) | h)
        · rcases this.1 (.inl h) with h | h
          · exact .inl (.inl h)
          · exact .inr h
        · exact .inl (.inr h)
        · rcases this.1 (.inr h) with h | h
          · exact .inl (.inl h)
          · exact .inr h
      · rintro ((h | h) | h)
        · rcases this.2 (.inl h) with h | h
          · exact .inl (.inl h)
          · exact .inr h
        · exact .inl (.inr h)
        · rcases this.2 (.inr h) with h | h
          · exact .inl (.inl h)
          · exact .inr h
    · rcases List.mem_append.1 hb with hb | hb
      · exact List.mem_append.2 (.inl (h3 b hb))
      · exact List.mem_append.2 (.inr hb)
  · rw [if_neg c1]
    by_cases c2 : r.hi + 1 < x.lo
    · rw [if_pos c2]
      refine ⟨?_, fun y => ?_, fun b hb => List.mem_append.2 (.inl (h3 b hb)), fun b hb => ?_⟩
      · simp only [AddS.all]
        rw [← List.append_assoc]
        refine wf_append h1 ⟨hx, fun _ h => (by cases h), trivial⟩ (fun b hb s hs => ?_)
        rcases List.mem_cons.1 hs with rfl | hs
        · rcases List.mem_append.1 hb with hb | hb
          · rcases List.mem_append.1 hb with hb | hb
            · exact hP b (h3 b hb)
            · rcases List.mem_cons.1 hb with rfl | hb
              · exact c2
              · cases hb
          · exact hP b (h4 b hb)
        · cases hs
      · have := h2 y
        simp only [AddS.all] at this ⊢
        rw [← List.append_assoc, mem_append', mem_one, this, hmx]
        constructor
        · rintro ((h | h) | h)
          · exact .inl (.inl h)
          · exact .inr h
          · exact .inl (.inr h)
        · rintro ((h | h) | h)
          · exact .inl (.inl h)
          · exact .inr h
          · exact .inl (.inr h)
      · rcases List.mem_append.1 hb with hb | hb
        · exact List.mem_append.2 (.inl (h4 b hb))
        · exact List.mem_append.2 (.inr hb)
    · rw [if_neg c2]
      have hA0 : A = [] := by
        cases A with
        | nil => rfl
        | cons a A =>
          have e1 := hrA a List.mem_cons_self
          have e2 := hP a (h4 a List.mem_cons_self)
          have e3 := wA.1
          omega
      subst hA0
      refine ⟨?_, fun y => ?_, fun b hb => List.mem_append.2 (.inl (h3 b hb)), fun b hb => by cases hb⟩
      · simp only [AddS.all, List.append_nil]
        refine wf_append wB ⟨by simp only; omega, fun _ h => (by cases h), trivial⟩ (fun b hb s hs => ?_)
        rcases List.mem_cons.1 hs with rfl | hs
        · have e1 := hBr b hb
          have e2 := hP b (h3 b hb)
          simp only
          omega
        · cases hs
      · have := h2 y
        simp only [AddS.all, List.append_nil, mem_append', mem_one] at this ⊢
        have key : (min r.lo x.lo ≤ y ∧ y ≤ max r.hi x.hi) ↔ (r.lo ≤ y ∧ y ≤ r.hi) ∨ (x.lo ≤ y ∧ y ≤ x.hi) := by omega
        rw [key]
        constructor
        · rintro (h | h | h)
          · rcases this.1 (.inl h) with h | h
            · exact .inl (.inl h)
            · exact .inr h
          · rcases this.1 (.inr h) with h | h
            · exact .inl (.inl h)
            · exact .inr h
          · exact .inl (.inr h)
        · rintro ((h | h) | h)
          · rcases this.2 (.inl h) with h | h
            · exact .inl h
            · exact .inr (.inl h)
          · exact .inr (.inr h)
          · rcases this.2 (.inr h) with h | h
            · exact .inl h
            · exact .inr (.inl h)
theorem addS_ok : ∀ (Q P : List Rn) (r0 : Rn) (s : AddS), WfR (P ++ Q) → AddOk P r0 s → AddOk (P ++ Q) r0 (Q.foldl AddS.step s)
  | [], P, r0, s, _, h => by simpa using h
  | x :: Q, P, r0, s, hw, h => by
    obtain ⟨_, w2, w3⟩ := wf_split hw
    have := addS_ok Q (P ++ [x]) r0 (s.step x) (by simpa using hw) (h.next w2.1 (fun p hp => w3 p hp x List.mem_cons_self))
    simpa using this
theorem addL_ok {L : List Rn} (hw : WfR L) (r : Rn) : WfR (addL L r) ∧ ∀ x, memR (addL L r) x ↔ memR L x ∨ (r.lo ≤ x ∧ x ≤ r.hi) := by
  unfold addL
  by_cases h : r.lo ≤ r.hi
  · rw [if_pos h]
    have h0 : AddOk [] r ⟨[], r, []⟩ := ⟨⟨h, fun _ h => (by cases h), trivial⟩, fun x => by
      show memR [r] x ↔ _
      rw [mem_one]
      exact ⟨.inr, fun h => h.elim (fun h => absurd h mem_nil) id⟩, fun _ h => (by cases h), fun _ h => (by cases h)⟩
    have := addS_ok L [] r _ hw h0
    exact ⟨this.wf, this.mem⟩
  · rw [if_neg h]
    exact ⟨hw, fun x => ⟨.inl, fun h' => h'.elim id (fun h' => by omega)⟩⟩
/-! ### What a set has of a run, and what it has not -/
def clipR (r x : Rn) : Rn := ⟨max x.lo r.lo, min x.hi r.hi⟩
def withinL (L : List Rn) (r : Rn) : List Rn := (L.map (clipR r)).filter fun x => decide (x.lo ≤ x.hi)
def gapsL : List Rn → Rn → List Rn
  | [], r => [r]
  | x :: ws, r => (if r.lo < x.lo then [⟨r.lo, x.lo - 1⟩] else []) ++ (if x.hi = r.hi then [] else gapsL ws ⟨x.hi + 1, r.hi⟩)
/-- One run more counted. -/
def withZ (n : Int) (r : Rn) : Int := if 9223372036854775807 - n ≤ r.hi - r.lo then 9223372036854775807 else n + (r.hi - r.lo) + 1
/-- The gaps that are told of the first parts, and the run that is left behind them. -/
def gOut : List Rn → Rn → List Rn
  | [], _ => []
  | x :: ws, r => (if r.lo < x.lo then [⟨r.lo, x.lo - 1⟩] else []) ++ gOut ws ⟨x.hi + 1, r.hi⟩
def gCur : List Rn → Rn → Rn
  | [], r => r
  | x :: ws, r => gCur ws ⟨x.hi + 1, r.hi⟩
theorem gapsL_cons (x : Rn) (ws : List Rn) (r : Rn) : gapsL (x :: ws) r = (if r.lo < x.lo then [⟨r.lo, x.lo - 1⟩] else []) ++ (if x.hi = r.hi then [] else gapsL ws ⟨x.hi + 1, r.hi⟩) := rfl
theorem gCur_hi : ∀ (ws : List Rn) (r : Rn), (gCur ws r).hi = r.hi
  | [], _ => rfl
  | x :: ws, r => gCur_hi ws ⟨x.hi + 1, r.hi⟩
theorem gCur_snoc : ∀ (ws : List Rn) (x r : Rn), gCur (ws ++ [x]) r = ⟨x.hi + 1, r.hi⟩
  | [], _, _ => rfl
  | y :: ws, x, r => gCur_snoc ws x ⟨y.hi + 1, r.hi⟩
theorem gOut_snoc : ∀ (ws : List Rn) (x r : Rn), gOut (ws ++ [x]) r = gOut ws r ++ (if (gCur ws r).lo < x.lo then [⟨(gCur ws r).lo, x.lo - 1⟩] else [])
  | [], x, r => by
    show (if r.lo < x.lo then [(⟨r.lo, x.lo - 1⟩ : Rn)] else []) ++ [] = [] ++ _
    rw [List.append_nil, List.nil_append]
    rfl
  | y :: ws, x, r => by
    show _ ++ gOut (ws ++ [x]) _ = (_ ++ gOut ws _) ++ _
    rw [gOut_snoc ws x, List.append_assoc]
    rfl
theorem gapsL_app : ∀ (pre rest : List Rn) (r : Rn), (∀ y ∈ pre, y.hi ≠ r.hi) → gapsL (pre ++ rest) r = gOut pre r ++ gapsL rest (gCur pre r)
  | [], _, _, _ => rfl
  | y :: pre, rest, r, h => by
    have h1 := h y List.mem_cons_self
    show gapsL (y :: (pre ++ rest)) r = _
    rw [gapsL_cons, if_neg h1, gapsL_app pre rest ⟨y.hi + 1, r.hi⟩ (fun z hz => h z (List.mem_cons_of_mem _ hz)), ← List.append_assoc]
    rfl
theorem gapsL_all {ws : List Rn} {r : Rn} (h : ∀ y ∈ ws, y.hi ≠ r.hi) : gapsL ws r = gOut ws r ++ [gCur ws r] := by
  have := gapsL_app ws [] r h
  rwa [List.append_nil] at this
theorem gapsL_stop {pre rest : List Rn} {x r : Rn} (h : ∀ y ∈ pre, y.hi ≠ r.hi) (hx : x.hi = r.hi) : gapsL (pre ++ x :: rest) r = gOut (pre ++ [x]) r := by
  rw [gapsL_app pre _ r h, gOut_snoc, gapsL_cons, if_pos (show x.hi = (gCur pre r).hi by rw [gCur_hi]; exact hx), List.append_nil]
theorem gOut_prefix {pre ws : List Rn} {x r : Rn} (h : ∀ y ∈ pre, y.hi ≠ r.hi) (hp : pre ++ [x] <+: ws) : gOut (pre ++ [x]) r <+: gapsL ws r := by
  obtain ⟨rest, rfl⟩ := hp
  rw [List.append_assoc, gapsL_app pre _ r h, gOut_snoc, List.singleton_append, gapsL_cons, ← List.append_assoc]
  exact ⟨_, rfl⟩
theorem within_mem {L : List Rn} {r x : Rn} (h : x ∈ withinL L r) : x.lo ≤ x.hi ∧ r.lo ≤ x.lo ∧ x.hi ≤ r.hi ∧ ∃ y ∈ L, x = clipR r y := by
  unfold withinL at h
  rw [List.mem_filter, List.mem_map] at h
  obtain ⟨⟨y, hy, rfl⟩, h2⟩ := h
  simp only [decide_eq_true_eq] at h2
  exact ⟨h2, by simp only [clipR]; omega, by simp only [clipR]; omega, y, hy, rfl⟩
theorem gaps_ok : ∀ (ws : List Rn) (lo hi : Int), lo ≤ hi → (∀ x ∈ ws, x.lo ≤ x.hi ∧ x.hi ≤ hi ∧ lo ≤ x.lo) → ∀ (c : Int), lo ≤ c → c ≤ hi → ∀ g ∈ gapsL ws ⟨c, hi⟩, g.lo ≤ g.hi ∧ lo ≤ g.lo ∧ g.hi ≤ hi
  | [], lo, hi, h, _, c, h1, h2, g, hg => by
    rcases List.mem_cons.1 hg with rfl | hg
    · exact ⟨h2, h1, Int.le_refl _⟩
    · cases hg
  | x :: ws, lo, hi, h, hw, c, h1, h2, g, hg => by
    obtain ⟨a1, a2, a3⟩ := hw x List.mem_cons_self
    rw [gapsL_cons] at hg
    rcases List.mem_append.1 hg with hg | hg
    · by_cases hc : c < x.lo
      · rw [if_pos hc] at hg
        rcases List.mem_cons.1 hg with rfl | hg
        · exact ⟨by simp only; omega, h1, by simp only; omega⟩
        · cases hg
      · rw [if_neg hc] at hg; cases hg
    · by_cases hc : x.hi = hi
      · rw [if_pos hc] at hg; cases hg
      · rw [if_neg hc] at hg
        exact gaps_ok ws lo hi h (fun y hy => hw y (List.mem_cons_of_mem _ hy)) (x.hi + 1) (by omega) (by omega) g hg
theorem withZ_bd {n : Int} {r : Rn} (h : 0 ≤ n ∧ n ≤ 9223372036854775807) (hr : r.lo ≤ r.hi) : 0 ≤ withZ n r ∧ withZ n r ≤ 9223372036854775807 := by
  unfold withZ
  split <;> omega
theorem addS_all {Q : Rn → Prop} (hQ : ∀ a b, Q a → Q b → Q ⟨min a.lo b.lo, max a.hi b.hi⟩) : ∀ (L : List Rn) (s : AddS), (∀ x ∈ L, Q x) → (∀ x ∈ s.below, Q x) → Q s.r → (∀ x ∈ s.above, Q x) → (∀ x ∈ (L.foldl AddS.step s).below, Q x) ∧ Q (L.foldl AddS.step s).r ∧ (∀ x ∈ (L.foldl AddS.step s).above, Q x)
  | [], s, _, h1, h2, h3 => ⟨h1, h2, h3⟩
  | x :: L, s, h, h1, h2, h3 => by
    have hx := h x List.mem_cons_self
    refine addS_all hQ L (s.step x) (fun y hy => h y (List.mem_cons_of_mem _ hy)) ?_ ?_ ?_
    · unfold AddS.step
      split
      · intro y hy
        rcases List.mem_append.1 hy with hy | hy
        · exact h1 y hy
        · rcases List.mem_cons.1 hy with rfl | hy
          · exact hx
          · cases hy
      · split
        · exact h1
        · exact h1
    · unfold AddS.step
      split
      · exact h2
      · split
        · exact h2
        · exact hQ _ _ h2 hx
    · unfold AddS.step
      split
      · exact h3
      · split
        · intro y hy
          rcases List.mem_append.1 hy with hy | hy
          · exact h3 y hy
          · rcases List.mem_cons.1 hy with rfl | hy
            · exact hx
            · cases hy
        · exact h3
theorem addS_len : ∀ (L : List Rn) (s : AddS), (L.foldl AddS.step s).below.length + (L.foldl AddS.step s).above.length ≤ s.below.length + s.above.length + L.length
  | [], s => by simp
  | x :: L, s => by
    have := addS_len L (s.step x)
    have h2 : (s.step x).below.length + (s.step x).above.length ≤ s.below.length + s.above.length + 1 := by
      unfold AddS.step
      split
      · simp; omega
      · split
        · simp; omega
        · simp only; omega
    simp only [List.foldl_cons, List.length_cons]
    omega
theorem foldl_snoc {L : List Rn} {k : Nat} {x : Rn} (h : L[k]? = some x) (s : AddS) : (L.take (k + 1)).foldl AddS.step s = ((L.take k).foldl AddS.step s).step x := by
  obtain ⟨h1, rfl⟩ := List.getElem?_eq_some_iff.1 h
  rw [List.take_succ_eq_append_getElem h1, List.foldl_append]
  rfl
/-- How many numbers Add says are new. -/
def addN (L : List Rn) (r : Rn) : Int := if r.lo ≤ r.hi then (gapsL (withinL L r) r).foldl withZ 0 else 0
theorem addL_len (L : List Rn) (r : Rn) : (addL L r).length ≤ L.length + 1 := by
  unfold addL
  split
  · have := addS_len L ⟨[], r, []⟩
    simp only [List.length_nil, Nat.zero_add] at this
    unfold addS
    simp only [AddS.all, List.length_append, List.length_cons, List.length_nil]
    omega
  · omega
theorem foldl_addL_len : ∀ (l : List Rn) (L : List Rn), (List.foldl addL L l).length ≤ L.length + l.length
  | [], L => by simp
  | x :: l, L => by
    have h1 := foldl_addL_len l (addL L x)
    have h2 := addL_len L x
    simp only [List.foldl_cons, List.length_cons]
    omega
end Go.Proofs.Ytaalhicdeibodaa
