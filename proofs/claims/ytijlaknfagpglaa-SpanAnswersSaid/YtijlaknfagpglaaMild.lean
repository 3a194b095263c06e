/- A region that draws its order: one walk of the textual order serves every order, where each operation of the head only reads or makes new memory, and the tail comes in one order. Conditions: the Bool 'mildB' holds over the region, each operation's own obligation is shown. -/
import Derived.Still
import Derived.StillTail
import Derived.Below
import Derived.Tactics
namespace Go.Proofs.Ytijlaknfagpglaa
open Go.RowKit
/-- What is known of the operations that have been carried out, by their numbers: facts, and the values that they have left. -/
structure Kn where
  K : Nat → World → Prop
  V : Nat → Value
def Kn.none_ : Kn := ⟨fun _ _ => True, fun _ => undef⟩
def Kn.upd (s : Kn) (i : Nat) (v : Value) (k : World → Prop) : Kn := ⟨fun j w => if j = i then s.K j w ∧ k w else s.K j w, fun j => if j = i then v else s.V j⟩
theorem Kn.upd_same (s : Kn) (i : Nat) (v : Value) (k : World → Prop) (w : World) : (s.upd i v k).K i w = (s.K i w ∧ k w) := by simp [Kn.upd]
theorem Kn.upd_other (s : Kn) {i j : Nat} (v : Value) (k : World → Prop) (h : j ≠ i) (w : World) : (s.upd i v k).K j w = s.K j w := by simp [Kn.upd, h]
theorem Kn.val_other (s : Kn) {i j : Nat} (v : Value) (k : World → Prop) (h : j ≠ i) : (s.upd i v k).V j = s.V j := by simp [Kn.upd, h]
theorem Kn.upd_comm (s : Kn) {i j : Nat} (v u : Value) (k l : World → Prop) (h : i ≠ j) : (s.upd i v k).upd j u l = (s.upd j u l).upd i v k := by
  unfold Kn.upd
  congr 1
  · funext m w
    by_cases h1 : m = j
    · subst h1; simp [Ne.symm h]
    · simp [h1]
  · funext m
    by_cases h1 : m = j
    · subst h1; simp [Ne.symm h]
    · simp [h1]
theorem Kn.of_upd {s : Kn} {i : Nat} {v : Value} {k : World → Prop} {w : World} (h : ∀ j, (s.upd i v k).K j w) : (∀ j, s.K j w) ∧ k w := by
  refine ⟨fun j => ?_, ?_⟩
  · have := h j
    by_cases hj : j = i
    · subst hj; rw [Kn.upd_same] at this; exact this.1
    · rwa [Kn.upd_other s v k hj] at this
  · have := h i
    rw [Kn.upd_same] at this
    exact this.2
theorem Kn.to_upd {s : Kn} {i : Nat} {v : Value} {k : World → Prop} {w : World} (h : ∀ j, s.K j w) (hk : k w) : ∀ j, (s.upd i v k).K j w := fun j => by
  by_cases hj : j = i
  · subst hj; rw [Kn.upd_same]; exact ⟨h j, hk⟩
  · rw [Kn.upd_other s v k hj]; exact h j
/-- The world has only grown. -/
abbrev Ext (w w' : World) : Prop := Below w.heap.size w w'
def Stable (S : World → Prop) : Prop := ∀ w w', S w → Below w.heap.size w w' → S w'
theorem Stable.true_ : Stable fun _ => True := fun _ _ _ _ => trivial
/-- All that is known lasts, and there is a world in which it holds. -/
def Good (w0 : World) (K : Kn) : Prop := (∀ j, Stable (K.K j)) ∧ ∃ w, Below w0.heap.size w0 w ∧ ∀ j, K.K j w
theorem stable_upd {K : Kn} {i : Nat} {v : Value} {k : World → Prop} (h : ∀ j, Stable (K.K j)) (hk : Stable k) : ∀ j, Stable ((K.upd i v k).K j) := fun j w w' hw hb => by
  by_cases hj : j = i
  · subst hj
    rw [Kn.upd_same] at hw ⊢
    exact ⟨h j _ _ hw.1 hb, hk _ _ hw.2 hb⟩
  · rw [Kn.upd_other K v k hj] at hw ⊢
    exact h j _ _ hw hb
section
variable {P : Program} {ops : Array Oper} {md : Region.Mode} {w0 : World} {sp : Nat → Option ((Nat → Value) → Value → World → Prop)}
/-- What an operation has left: a value and a world that has only grown, of which S holds. -/
def mildUpon (P : Program) (w : World) (S : Value → World → Prop) : Result Next → Prop
  | .ok (.value u) w' => Below w.heap.size w w' ∧ S u w'
  | .ok .skip w' => Below w.heap.size w w' ∧ S undef w'
  | .ok (.enter f args) w' => Below w.heap.size w w' ∧ Calls P f args w' fun e w'' => ∃ u, e = .returned u ∧ Below w'.heap.size w' w'' ∧ S u w''
  | _ => False
theorem mildUpon_value (w w' : World) (S : Value → World → Prop) (u : Value) : mildUpon P w S (.ok (.value u) w') = (Below w.heap.size w w' ∧ S u w') := rfl
theorem mildUpon_skip (w w' : World) (S : Value → World → Prop) : mildUpon P w S (.ok .skip w') = (Below w.heap.size w w' ∧ S undef w') := rfl
theorem mildUpon_enter (w w' : World) (S : Value → World → Prop) (f : FuncId) (args : Array Value) :
    mildUpon P w S (.ok (.enter f args) w') = (Below w.heap.size w w' ∧ Calls P f args w' fun e w'' => ∃ u, e = .returned u ∧ Below w'.heap.size w' w'' ∧ S u w'') := rfl
def mildAt (P : Program) (o : Oper) (a : Act) (w : World) (S : Value → World → Prop) : Prop := mildUpon P w S ((execOp a.eval o).run P w)
/-- The operation yields v and leaves the world as it is, in every world that has only grown. -/
def oneAt (P : Program) (w0 : World) (o : Oper) (a : Act) (v : Value) : Prop := ∀ w, Below w0.heap.size w0 w → (execOp a.eval o).run P w = .ok (.value v) w
/-- i waits for j, by however many edges. -/
def uponB (md : Region.Mode) (ops : Array Oper) : Nat → Nat → Nat → Bool
  | 0, _, _ => false
  | f + 1, i, j => match ops[i]? with
    | some o => o.after.any fun e => Region.binds md e && (e.on == j || uponB md ops f e.on j)
    | none => false
/-- In state a the operation number i can be carried out. -/
def Okm (P : Program) (md : Region.Mode) (ops : Array Oper) (w0 : World) (sp : Nat → Option ((Nat → Value) → Value → World → Prop)) (i : Nat) (o : Oper) (a : Act) (K : Kn) : Prop :=
  if Region.wanted o (yielded ops a.tmps) = true then
    match sp i with
    | none => ∃ v, oneAt P w0 o a v
    | some S => (∀ V v, Stable (S V v)) ∧ (∀ V V', (∀ j, uponB md ops ops.size i j = true → V j = V' j) → S V = S V') ∧ ∀ w, Below w0.heap.size w0 w → (∀ j, uponB md ops ops.size i j = true → K.K j w) → mildAt P o a w (S K.V)
  else True
/-- What it may leave. -/
def Res (P : Program) (ops : Array Oper) (w0 : World) (sp : Nat → Option ((Nat → Value) → Value → World → Prop)) (i : Nat) (o : Oper) (a : Act) (K : Kn) (v : Value) (k : World → Prop) : Prop :=
  if Region.wanted o (yielded ops a.tmps) = true then
    match sp i with
    | none => oneAt P w0 o a v ∧ k = fun _ => True
    | some S => k = S K.V v
  else v = undef ∧ k = fun _ => True
def mOp (P : Program) (md : Region.Mode) (ops : Array Oper) (w0 : World) (sp : Nat → Option ((Nat → Value) → Value → World → Prop)) (i : Nat) (N : Act → Kn → Prop) (a : Act) (K : Kn) : Prop :=
  match ops[i]? with
  | none => N a K
  | some o => Okm P md ops w0 sp i o a K ∧ ∀ v k, Res P ops w0 sp i o a K v k → Good w0 (K.upd i v k) → N (a.put o.dst v) (K.upd i v k)
theorem mOp_mono {i : Nat} {a : Act} {K : Kn} {N N' : Act → Kn → Prop} (hG : Good w0 K) (h : ∀ a K, Good w0 K → N a K → N' a K) (hh : mOp P md ops w0 sp i N a K) : mOp P md ops w0 sp i N' a K := by
  unfold mOp at *
  cases ho : ops[i]? with
  | none => simp only [ho] at hh ⊢; exact h _ _ hG hh
  | some o => simp only [ho] at hh ⊢; exact ⟨hh.1, fun v k hr hg => h _ _ hg (hh.2 v k hr hg)⟩
theorem oneAt_put {o oi : Oper} {v u : Value} {a : Act} (hs : ∀ cs b, o.op ≠ .select cs b) (h : ∀ d, oi.dst = some d → d ∉ o.looksAt ops) :
    oneAt P w0 o (a.put oi.dst v) u ↔ oneAt P w0 o a u := by
  unfold oneAt
  rw [execOp_put o hs a oi.dst v h]
theorem mildAt_put {o oi : Oper} {v : Value} {a : Act} {w : World} {S : Value → World → Prop} (hs : ∀ cs b, o.op ≠ .select cs b) (h : ∀ d, oi.dst = some d → d ∉ o.looksAt ops) :
    mildAt P o (a.put oi.dst v) w S ↔ mildAt P o a w S := by
  unfold mildAt
  rw [execOp_put o hs a oi.dst v h]
theorem Okm_put {j i : Nat} {o oi : Oper} {v : Value} {a : Act} {K : Kn} {k : World → Prop} (hs : ∀ cs b, o.op ≠ .select cs b) (h : ∀ d, oi.dst = some d → d ∉ o.looksAt ops)
    (hd : uponB md ops ops.size j i = false) : Okm P md ops w0 sp j o (a.put oi.dst v) (K.upd i v k) ↔ Okm P md ops w0 sp j o a K := by
  unfold Okm
  rw [wanted_put o a oi.dst v h]
  split
  · cases sp j with
    | none => simp only [oneAt_put hs h]
    | some S =>
      simp only [mildAt_put hs h]
      have e : ∀ w, (∀ m, uponB md ops ops.size j m = true → (K.upd i v k).K m w) ↔ (∀ m, uponB md ops ops.size j m = true → K.K m w) := by
        intro w
        constructor <;> intro hh m hm <;> have := hh m hm
        · have hne : m ≠ i := fun e => by subst e; rw [hd] at hm; cases hm
          rwa [Kn.upd_other K v k hne] at this
        · have hne : m ≠ i := fun e => by subst e; rw [hd] at hm; cases hm
          rwa [Kn.upd_other K v k hne]
      simp only [e]
      constructor
      · rintro ⟨h1, h2, h3⟩
        refine ⟨h1, h2, ?_⟩
        rw [h2 K.V (K.upd i v k).V fun m hm => (Kn.val_other K v k (fun e => by subst e; rw [hd] at hm; cases hm)).symm]
        exact h3
      · rintro ⟨h1, h2, h3⟩
        refine ⟨h1, h2, ?_⟩
        rw [h2 (K.upd i v k).V K.V fun m hm => Kn.val_other K v k (fun e => by subst e; rw [hd] at hm; cases hm)]
        exact h3
  · rfl
/-- S, of an operation that does not wait for i, does not look at i's value. -/
def Apart (md : Region.Mode) (ops : Array Oper) (sp : Nat → Option ((Nat → Value) → Value → World → Prop)) (j : Nat) : Prop :=
  ∀ S, sp j = some S → ∀ V V', (∀ m, uponB md ops ops.size j m = true → V m = V' m) → S V = S V'
theorem Okm.apart {j : Nat} {o : Oper} {a : Act} {K : Kn} (h : Okm P md ops w0 sp j o a K) (hw : Region.wanted o (yielded ops a.tmps) = true) : Apart md ops sp j := by
  intro S hS
  unfold Okm at h
  simp only [hw, if_true, hS] at h
  exact h.2.1
theorem Res_put {j i : Nat} {o oi : Oper} {v u : Value} {a : Act} {K : Kn} {k l : World → Prop} (hs : ∀ cs b, o.op ≠ .select cs b) (h : ∀ d, oi.dst = some d → d ∉ o.looksAt ops)
    (hd : uponB md ops ops.size j i = false) (ha : Region.wanted o (yielded ops a.tmps) = true → Apart md ops sp j) :
    Res P ops w0 sp j o (a.put oi.dst v) (K.upd i v k) u l ↔ Res P ops w0 sp j o a K u l := by
  unfold Res
  rw [wanted_put o a oi.dst v h]
  split
  · rename_i hw
    cases hsp : sp j with
    | none => simp only [oneAt_put hs h]
    | some S =>
      have e := ha hw S hsp (K.upd i v k).V K.V fun m hm => Kn.val_other K v k (fun e => by subst e; rw [hd] at hm; cases hm)
      simp only [e]
  · rfl
theorem Okm.stable {i : Nat} {o : Oper} {a : Act} {K : Kn} {v : Value} {k : World → Prop} (h : Okm P md ops w0 sp i o a K) (hr : Res P ops w0 sp i o a K v k) : Stable k := by
  unfold Okm at h
  unfold Res at hr
  by_cases hw : Region.wanted o (yielded ops a.tmps) = true
  · simp only [hw, if_true] at h hr
    cases hsp : sp i with
    | none => simp only [hsp] at h hr; rw [hr.2]; exact Stable.true_
    | some S => simp only [hsp] at h hr; rw [hr]; exact h.1 _ v
  · simp only [hw] at hr; rw [hr.2]; exact Stable.true_
theorem mildAt_ends {o : Oper} {a : Act} {w : World} {S : Value → World → Prop} (h : mildAt P o a w S) : ∃ u w', Below w.heap.size w w' ∧ S u w' := by
  unfold mildAt at h
  generalize (execOp a.eval o).run P w = r at *
  cases r with
  | ok n w' =>
    cases n <;> simp only [mildUpon] at h
    case value u => exact ⟨u, w', h⟩
    case skip => exact ⟨undef, w', h⟩
    case enter f args =>
      obtain ⟨hb, hc⟩ := h
      obtain ⟨e, w'', fr, ⟨u, _, hb2, hS⟩, _⟩ := hc []
      exact ⟨u, w'', hb.trans (hb2.mono hb.size), hS⟩
  | halt x w' => simp only [mildUpon] at h
theorem Okm_res {i : Nat} {o : Oper} {a : Act} {K : Kn} (hG : Good w0 K) (h : Okm P md ops w0 sp i o a K) : ∃ v k, Res P ops w0 sp i o a K v k ∧ Good w0 (K.upd i v k) := by
  obtain ⟨hst, w, hC, hK⟩ := hG
  have triv : ∀ v, Good w0 (K.upd i v fun _ => True) := fun v => ⟨stable_upd hst Stable.true_, w, hC, Kn.to_upd hK trivial⟩
  unfold Okm at h
  unfold Res
  by_cases hw : Region.wanted o (yielded ops a.tmps) = true
  · simp only [hw, if_true] at h ⊢
    cases hsp : sp i with
    | none => simp only [hsp] at h ⊢; obtain ⟨v, hv⟩ := h; exact ⟨v, _, ⟨hv, rfl⟩, triv v⟩
    | some S =>
      simp only [hsp] at h ⊢
      obtain ⟨u, w', hb, hS⟩ := mildAt_ends (h.2.2 w hC fun j _ => hK j)
      exact ⟨u, _, rfl, stable_upd hst (h.1 _ u), w', hC.trans (hb.mono hC.size), Kn.to_upd (fun j => hst j _ _ (hK j) hb) hS⟩
  · simp only [hw]; exact ⟨undef, _, ⟨rfl, rfl⟩, triv _⟩
/-- Two operations that are apart, neither of which waits for the other: which comes first makes no difference. -/
theorem mOp_swap {i j : Nat} {oi oj : Oper} (hi : ops[i]? = some oi) (hj : ops[j]? = some oj) (hne : i ≠ j) (hap : oi.apart ops oj = true)
    (hsi : ∀ cs b, oi.op ≠ .select cs b) (hsj : ∀ cs b, oj.op ≠ .select cs b) (hij : uponB md ops ops.size i j = false) (hji : uponB md ops ops.size j i = false)
    {N : Act → Kn → Prop} {a : Act} {K : Kn} (hG : Good w0 K) (h : mOp P md ops w0 sp i (fun a' K' => mOp P md ops w0 sp j N a' K') a K) :
    mOp P md ops w0 sp j (fun a' K' => mOp P md ops w0 sp i N a' K') a K := by
  obtain ⟨h1, h2, h3⟩ := Oper.apart_spec hap
  unfold mOp at *
  simp only [hi, hj] at *
  obtain ⟨hok, hn⟩ := h
  obtain ⟨v0, k0, hr0, hg0⟩ := Okm_res hG hok
  have hokj0 := (Okm_put (oi := oi) hsj h1 hji).1 (hn v0 k0 hr0 hg0).1
  refine ⟨hokj0, fun u l hrl _ => ⟨(Okm_put (oi := oj) hsi h3 hij).2 hok, fun v k hrk hg2 => ?_⟩⟩
  have hrk' := (Res_put (oi := oj) hsi h3 hij fun hw => hok.apart hw).1 hrk
  obtain ⟨_, w, hC, hKw⟩ := hg2
  have hw := Kn.of_upd (Kn.of_upd hKw).1
  have hgi : Good w0 (K.upd i v k) := ⟨stable_upd hG.1 (hok.stable hrk'), w, hC, Kn.to_upd hw.1 (Kn.of_upd hKw).2⟩
  obtain ⟨hokj, hnj⟩ := hn v k hrk' hgi
  have hrl' := (Res_put (oi := oi) (v := v) (k := k) hsj h1 hji fun hw => hokj0.apart hw).2 hrl
  have := hnj u l hrl' ⟨stable_upd hgi.1 (hokj.stable hrl'), w, hC, Kn.to_upd (Kn.to_upd hw.1 (Kn.of_upd hKw).2) hw.2⟩
  rw [Act.put_comm a v u h2, Kn.upd_comm K v u k l hne] at this
  exact this
theorem uponB_ready {n : Nat} {listed : Array Bool} (inv : HeadInv md ops n listed) {i j : Nat} (hr : i ∈ Region.ready md ops listed) (hun : listed.getD j true = false) :
    ∀ f, uponB md ops f i j = false := by
  have key : ∀ f k, listed.getD k false = true → uponB md ops f k j = false := by
    intro f
    induction f with
    | zero => intro k _; rfl
    | succ f ih =>
      intro k hk
      cases ho : ops[k]? with
      | none => simp [uponB, ho]
      | some o =>
        simp only [uponB, ho]
        rw [Array.any_eq_false']
        intro e he
        cases hb : Region.binds md e with
        | false => simp
        | true =>
          have hl := inv.closed k o ho hk e he hb
          have hne : e.on ≠ j := fun heq => by rw [heq, getD_both hun] at hl; cases hl
          simp [hne, ih e.on hl]
  intro f
  obtain ⟨_, oi, hoi, hall⟩ := mem_ready.1 hr
  cases f with
  | zero => rfl
  | succ f =>
    simp only [uponB, hoi]
    rw [Array.any_eq_false']
    intro e he
    cases hb : Region.binds md e with
    | false => simp
    | true =>
      have hl := hall e he hb
      have hne : e.on ≠ j := fun heq => by rw [heq, getD_both hun] at hl; cases hl
      simp [hne, key f e.on hl]
/-- Whatever order is picked for the head. -/
def wpAnyM (P : Program) (md : Region.Mode) (ops : Array Oper) (w0 : World) (sp : Nat → Option ((Nat → Value) → Value → World → Prop)) (n : Nat) (L : Array Bool → Act → Kn → Prop) : Nat → Array Bool → Act → Kn → Prop
  | 0, listed, a, K => L listed a K
  | f + 1, listed, a, K =>
    Region.ready md ops listed ≠ [] ∧ ∀ i ∈ Region.ready md ops listed, i < n ∧ mOp P md ops w0 sp i (wpAnyM P md ops w0 sp n L f (listed.setIfInBounds i true)) a K
theorem wpAnyM_first {n i : Nat} {oi : Oper} {L : Array Bool → Act → Kn → Prop} (hi : ops[i]? = some oi) (hsel : ∀ (j : Nat) (o : Oper) cs b, ops[j]? = some o → o.op ≠ .select cs b)
    (hs : Region.sinkB md ops n = true) (hc : Region.chainB md ops n = true) (hn : n < ops.size) (hin : i < n)
    (hdone : ∀ listed a K, L listed a K → ∀ j ∈ Region.ready md ops listed, n ≤ j) :
    ∀ (f : Nat) (listed : Array Bool) (a : Act) (K : Kn), Good w0 K → HeadInv md ops n listed →
      (∀ j oj, ops[j]? = some oj → j ≠ i → listed.getD j true = false → (∀ e ∈ oj.after, Region.binds md e = true → e.on ≠ i) → oi.apart ops oj = true) →
      i ∈ Region.ready md ops listed →
      mOp P md ops w0 sp i (wpAnyM P md ops w0 sp n L f (listed.setIfInBounds i true)) a K → wpAnyM P md ops w0 sp n L (f + 1) listed a K := by
  intro f
  induction f with
  | zero =>
    intro listed a K hG inv _ hr H
    have hun := (mem_ready.1 hr).1
    refine ⟨fun h => (by rw [h] at hr; cases hr), fun j hj => ?_⟩
    have hjn : j < n := by
      rcases Nat.lt_or_ge j n with h | h
      · exact h
      · exact absurd hj (tail_waits hs hc hn inv _ i rfl hin hun j h)
    refine ⟨hjn, ?_⟩
    by_cases hji : j = i
    · subst hji; exact H
    · exfalso
      unfold mOp at H
      simp only [hi] at H
      obtain ⟨v, k, hr', hg'⟩ := Okm_res hG H.1
      have := hdone _ _ _ (H.2 v k hr' hg') j (ready_mono hj hji)
      omega
  | succ f ih =>
    intro listed a K hG inv hfree hr H
    have hun := (mem_ready.1 hr).1
    refine ⟨fun h => (by rw [h] at hr; cases hr), fun j hj => ?_⟩
    have hjn : j < n := by
      rcases Nat.lt_or_ge j n with h | h
      · exact h
      · exact absurd hj (tail_waits hs hc hn inv _ i rfl hin hun j h)
    refine ⟨hjn, ?_⟩
    by_cases hji : j = i
    · subst hji; exact H
    · obtain ⟨hjun, oj, hoj, hall⟩ := mem_ready.1 hj
      have hnot : ∀ e ∈ oj.after, Region.binds md e = true → e.on ≠ i := fun e he hb heq => by
        have h1 := hall e he hb
        rw [heq, getD_both hun] at h1
        cases h1
      have h1 : mOp P md ops w0 sp i (fun a' K' => mOp P md ops w0 sp j (wpAnyM P md ops w0 sp n L f ((listed.setIfInBounds i true).setIfInBounds j true)) a' K') a K :=
        mOp_mono hG (fun a' K' _ h => (h.2 j (ready_mono hj hji)).2) H
      have h2 := mOp_swap hi hoj (Ne.symm hji) (hfree j oj hoj hji hjun hnot) (fun cs b => hsel i oi cs b hi) (fun cs b => hsel j oj cs b hoj)
        (uponB_ready inv hr hjun _) (uponB_ready inv hj hun _) hG h1
      have hfree' : ∀ k ok, ops[k]? = some ok → k ≠ i → (listed.setIfInBounds j true).getD k true = false →
          (∀ e ∈ ok.after, Region.binds md e = true → e.on ≠ i) → oi.apart ops ok = true := fun k ok hk hki hu hno => by
        refine hfree k ok hk hki ?_ hno
        by_cases hjk : j = k
        · subst hjk; exact hjun
        · rw [getD_set_ne true hjk] at hu; exact hu
      refine mOp_mono hG (fun a' K' hG' h3 => ih (listed.setIfInBounds j true) a' K' hG' (inv.set hj hjn) hfree' (ready_mono hr (Ne.symm hji)) ?_) h2
      rw [Array.setIfInBounds_comm _ _ hji]
      exact h3
/-- The lexical walk of the head. -/
def wpM (P : Program) (md : Region.Mode) (ops : Array Oper) (w0 : World) (sp : Nat → Option ((Nat → Value) → Value → World → Prop)) (L : Act → Kn → Prop) : Nat → List Oper → Act → Kn → Prop
  | _, [], a, K => L a K
  | k, o :: rest, a, K => Okm P md ops w0 sp k o a K ∧ ∀ v kn, Res P ops w0 sp k o a K v kn → Good w0 (K.upd k v kn) → wpM P md ops w0 sp L (k + 1) rest (a.put o.dst v) (K.upd k v kn)
theorem wpAnyM_lex {n g : Nat} {Lq : Act → Kn → Prop} (hsel : Region.noSelect ops = true) (hs : Region.sinkB md ops n = true) (hc : Region.chainB md ops n = true) (hn : n < ops.size) :
    ∀ (l : List Oper) (k : Nat) (listed : Array Bool) (a : Act) (K : Kn), (∀ j, j < l.length → l[j]? = ops[k + j]?) → k + l.length = n → Good w0 K → HeadInv md ops n listed →
    Region.lexHead md ops g l.length k listed = true → wpM P md ops w0 sp Lq k l a K →
    wpAnyM P md ops w0 sp n (fun listed' a' K' => Region.seqB md ops g n listed' = true ∧ Lq a' K') l.length listed a K
  | [], k, listed, a, K, _, hk, _, _, hB, h => by
    have : k = n := by simpa using hk
    subst this
    exact ⟨by simpa [Region.lexHead] using hB, h⟩
  | o :: l, k, listed, a, K, hl, hk, hG, inv, hB, h => by
    have h0 : ops[k]? = some o := by simpa using (hl 0 (by simp)).symm
    simp only [List.length_cons, Region.lexHead, Bool.and_eq_true] at hB
    obtain ⟨⟨hr, hf⟩, hB'⟩ := hB
    have hkn : k < n := by simp only [List.length_cons] at hk; omega
    have hr' : k ∈ Region.ready md ops listed := by simpa using hr
    refine wpAnyM_first h0 (Region.noSelect_spec hsel) hs hc hn hkn (fun listed' a' K' hL => seqB_ready hL.1) l.length listed a K hG inv (Region.free_spec h0 hf) hr' ?_
    unfold mOp
    simp only [h0]
    exact ⟨h.1, fun v kn hres hg => wpAnyM_lex hsel hs hc hn l (k + 1) _ _ _ (fun j hj => by have := hl (j + 1) (by simp; omega); simpa [Nat.add_assoc, Nat.add_comm 1 j] using this)
      (by simp only [List.length_cons] at hk; omega) hg (inv.set hr' hkn) hB' (h.2 v kn hres hg)⟩
theorem mildAt_wp {o : Oper} {a : Act} {w : World} {S : Value → World → Prop} {K' : Act → World → Prop} {Q' : Exit → Act → World → Prop} (h : mildAt P o a w S)
    (hn : ∀ v w', Below w.heap.size w w' → S v w' → K' (a.put o.dst v) w') : o.wp P a w K' Q' := by
  unfold mildAt at h
  unfold Oper.wp
  generalize (execOp a.eval o).run P w = r at *
  cases r with
  | ok n w' =>
    cases n <;> simp only [mildUpon] at h <;> simp only [Oper.upon]
    case value u => exact hn u w' h.1 h.2
    case skip => exact hn _ w' h.1 h.2
    case enter f args =>
      refine h.2.mono fun e w'' ⟨u, he, hb, hS⟩ => ?_
      subst he
      exact hn u w'' (h.1.trans (hb.mono h.1.size)) hS
  | halt x w' => simp only [mildUpon] at h
theorem wpOp_of_mOp {i : Nat} {a : Act} {K : Kn} {N : Act → Kn → Prop} {K' : Act → World → Prop} {Q' : Exit → Act → World → Prop} {w : World}
    (hC : Below w0.heap.size w0 w) (hK : ∀ j, K.K j w) (hst : ∀ j, Stable (K.K j))
    (h : ∀ a' v k w', Below w0.heap.size w0 w' → (∀ j, (K.upd i v k).K j w') → (∀ j, Stable ((K.upd i v k).K j)) → N a' (K.upd i v k) → K' a' w') (h0 : ops[i]? ≠ none) (hh : mOp P md ops w0 sp i N a K) : wpOp P ops Q' i K' a w := by
  unfold mOp at hh
  unfold wpOp
  cases ho : ops[i]? with
  | none => exact absurd ho h0
  | some o =>
    simp only [ho] at hh ⊢
    obtain ⟨hok, hn⟩ := hh
    have fin : ∀ {w'} (v : Value) (k : World → Prop), Below w.heap.size w w' → k w' → Res P ops w0 sp i o a K v k → K' (a.put o.dst v) w' := fun {w'} v k hb hk hr => by
      have hC' : Below w0.heap.size w0 w' := hC.trans (hb.mono hC.size)
      have hK' : ∀ j, (K.upd i v k).K j w' := Kn.to_upd (fun j => hst j _ _ (hK j) hb) hk
      have hs' := stable_upd (i := i) (v := v) hst (hok.stable hr)
      exact h _ v k w' hC' hK' hs' (hn v k hr ⟨hs', w', hC', hK'⟩)
    unfold Okm at hok
    unfold Res at fin
    by_cases hw : Region.wanted o (yielded ops a.tmps) = true
    · simp only [hw, if_true] at hok fin ⊢
      refine .inl ?_
      cases hsp : sp i with
      | none =>
        simp only [hsp] at hok fin
        obtain ⟨v, hv⟩ := hok
        unfold Oper.wp
        rw [hv w hC]
        exact fin v _ (Below.refl _ _) trivial ⟨hv, rfl⟩
      | some S =>
        simp only [hsp] at hok fin
        exact mildAt_wp (hok.2.2 w hC fun j _ => hK j) fun u w' hb hu => fin u _ hb hu rfl
    · simp only [hw] at fin ⊢
      exact fin undef _ (Below.refl _ _) trivial ⟨rfl, rfl⟩
theorem wpAny_of_headM {n g : Nat} {L : Array Bool → Act → Kn → Prop} {Q' : Exit → Act → World → Prop}
    (hL : ∀ listed a K w, Below w0.heap.size w0 w → (∀ j, K.K j w) → L listed a K → wpAny P md ops Q' g listed a w) :
    ∀ (f : Nat) (listed : Array Bool) (a : Act) (K : Kn) (w : World), Below w0.heap.size w0 w → (∀ j, K.K j w) → (∀ j, Stable (K.K j)) →
      wpAnyM P md ops w0 sp n L f listed a K → wpAny P md ops Q' (f + g) listed a w
  | 0, listed, a, K, w, hC, hK, _, h => by rw [Nat.zero_add]; exact hL _ _ _ _ hC hK h
  | f + 1, listed, a, K, w, hC, hK, hst, h => by
    rw [show f + 1 + g = (f + g) + 1 by omega]
    refine ⟨fun h0 => absurd h0 h.1, fun i hi => ?_⟩
    obtain ⟨_, oi, hoi, _⟩ := mem_ready.1 hi
    exact wpOp_of_mOp hC hK hst (fun a' v k w' hC' hK' hst' h' => wpAny_of_headM hL f _ a' _ w' hC' hK' hst' h') (by rw [hoi]; exact nofun) (h.2 i hi).2
end
/-- From here on of the world only this is known. -/
theorem wp_cut {P : Program} {c : Code} {Q : Exit → Act → World → Prop} {a : Act} {w : World} (F : World → Prop) (hF : F w) (h : ∀ W, F W → c.wp P Q a W) : c.wp P Q a w := h w hF
/-- THE RULE. The first n operations in whatever order the edges allow, by one walk of the textual order; what comes behind them in its one order. -/
theorem wp_region_mild {P : Program} {id : Nat} {Q : Exit → Act → World → Prop} {a : Act} {w : World} {l : List Oper} (n : Nat) (sp : Nat → Option ((Nat → Value) → Value → World → Prop)) (hm : P.follows .mixedOrders = true) (hB : Region.lexTailB .any l.toArray n = true)
    (h : ∀ (W : World) (N : Act → Kn → Prop), Ext w W → (∀ a' K, (∀ w', Ext W w' → (∀ j, K.K j w') → wpList P l.toArray Q (l.drop n) a' w') → N a' K) → wpM P .any l.toArray W sp N 0 (l.take n) a Kn.none_) : (Code.region id l.toArray true).wp P Q a w := by
  replace h := h w.drew _ (Below.refl _ _).drew (fun _ _ h => h)
  simp only [Region.lexTailB, Bool.and_eq_true, decide_eq_true_eq] at hB
  obtain ⟨⟨⟨⟨hsel, hn⟩, hs⟩, hc⟩, hlex⟩ := hB
  have hn' : n < l.length := by simpa using hn
  have htl : (l.take n).length = n := by simp; omega
  have hdl : (l.drop n).length = l.toArray.size - n := by simp
  have inv0 : HeadInv .any l.toArray n (Array.replicate l.toArray.size false) :=
    ⟨by simp, fun j oj _ hl => (by rw [getD_replicate_false] at hl; cases hl), fun t _ ht => getD_in (by simpa using ht) (getD_replicate_false _ _)⟩
  have H := wpAnyM_lex (md := .any) (g := l.toArray.size - n) hsel hs hc hn (l.take n) 0 _ a _ (fun j hj => by
    have hj' : j < n := by rw [htl] at hj; exact hj
    simp [hj']) (by simpa using htl) ⟨fun _ _ _ _ _ => trivial, w.drew, Below.refl _ _, fun _ => trivial⟩ inv0 (by rw [htl]; exact hlex) h
  refine wp_region_any hm ?_
  have := wpAny_of_headM (w0 := w.drew) (Q' := Q) (g := l.toArray.size - n) (fun listed a' K w' hC hK hL => by
    have := wpAny_of_seq (md := .any) (Q' := Q) (l.drop n) n listed a' w' (fun j => by simp [List.getElem?_drop]) (by rw [hdl]; exact hL.1) (hL.2 w' hC hK)
    rwa [hdl] at this) _ _ _ _ w.drew (Below.refl _ _) (fun _ => trivial) (fun _ _ _ _ _ => trivial) H
  rw [htl, show n + (l.toArray.size - n) = l.toArray.size by omega] at this
  exact this
/-! ### The steps of the lexical walk -/
section
variable {P : Program} {ops : Array Oper} {md : Region.Mode} {w0 : World} {sp : Nat → Option ((Nat → Value) → Value → World → Prop)} {L : Act → Kn → Prop} {k : Nat} {o : Oper} {rest : List Oper} {a : Act} {K : Kn}
/-- An operation that yields one value and leaves the world as it is, in every world that has only grown. -/
theorem wpM_one (v : Value) (hg : o.guard = none) (hsp : sp k = none) (hv : oneAt P w0 o a v) (h : wpM P md ops w0 sp L (k + 1) rest (a.put o.dst v) (K.upd k v fun _ => True)) : wpM P md ops w0 sp L k (o :: rest) a K := by
  have hw : Region.wanted o (yielded ops a.tmps) = true := by simp [Region.wanted, hg]
  refine ⟨by unfold Okm; simp only [hw, if_true, hsp]; exact ⟨v, hv⟩, fun u kn hr _ => ?_⟩
  unfold Res at hr
  simp only [hw, if_true, hsp] at hr
  obtain ⟨hu, rfl⟩ := hr
  have e := (hu w0 (Below.refl _ _)).symm.trans (hv w0 (Below.refl _ _))
  injection e with e
  injection e with e
  rw [e]
  exact h
/-- An operation that may make new memory: what is known of its value and its world. -/
theorem wpM_new (S : (Nat → Value) → Value → World → Prop) (hg : o.guard = none) (hsp : sp k = some S) (hst : ∀ V v, Stable (S V v)) (hV : ∀ V V', (∀ j, uponB md ops ops.size k j = true → V j = V' j) → S V = S V')
    (hv : ∀ w, Below w0.heap.size w0 w → (∀ j, uponB md ops ops.size k j = true → K.K j w) → mildAt P o a w (S K.V))
    (h : ∀ v, (∃ w, Below w0.heap.size w0 w ∧ (∀ j, K.K j w) ∧ S K.V v w) → wpM P md ops w0 sp L (k + 1) rest (a.put o.dst v) (K.upd k v (S K.V v))) : wpM P md ops w0 sp L k (o :: rest) a K := by
  have hw : Region.wanted o (yielded ops a.tmps) = true := by simp [Region.wanted, hg]
  refine ⟨by unfold Okm; simp only [hw, if_true, hsp]; exact ⟨hst, hV, hv⟩, fun u kn hr hG => ?_⟩
  unfold Res at hr
  simp only [hw, if_true, hsp] at hr
  subst hr
  obtain ⟨_, w, hC, hK⟩ := hG
  exact h u ⟨w, hC, (Kn.of_upd hK).1, (Kn.of_upd hK).2⟩
/-- An operation that its guard passes over. -/
theorem wpM_pass (hw : Region.wanted o (yielded ops a.tmps) = false) (h : wpM P md ops w0 sp L (k + 1) rest (a.put o.dst undef) (K.upd k undef fun _ => True)) : wpM P md ops w0 sp L k (o :: rest) a K := by
  refine ⟨by unfold Okm; simp [hw], fun u kn hr _ => ?_⟩
  unfold Res at hr
  simp only [hw] at hr
  obtain ⟨rfl, rfl⟩ := hr
  exact h
theorem wpM_nil (h : L a K) : wpM P md ops w0 sp L k [] a K := h
end
end Go.Proofs.Ytijlaknfagpglaa
