/- A region that draws its order: one walk, in an order of one's own choice, serves every order. Operations either only read or make new memory (mild), or come one behind the other and may also write to blocks of the call's own (late). Conditions: the Bool 'orderB' holds over the region, each operation's own obligation is shown. -/
import Derived.Test.YtijlaknfagpglaaWords
namespace Go.Proofs.Ytijlaknfagpglaa
set_option linter.unusedVariables false
open Go.RowKit
/-- What an operation may leave: a value and a world. -/
abbrev Sp := (Nat → Value) → Value → World → Prop
/-- What is known: of each mild operation that was carried out; the values that were left; of the call's own blocks. -/
structure Kr where
  K : Nat → World → Prop
  V : Nat → Value
  F : World → Prop
def Kr.init (F : World → Prop) : Kr := ⟨fun _ _ => True, fun _ => undef, F⟩
def Kr.upd (s : Kr) (i : Nat) (v : Value) (k : World → Prop) : Kr := ⟨fun j w => if j = i then s.K j w ∧ k w else s.K j w, fun j => if j = i then v else s.V j, s.F⟩
def Kr.late (s : Kr) (i : Nat) (v : Value) (k : World → Prop) : Kr := ⟨s.K, fun j => if j = i then v else s.V j, k⟩
theorem Kr.upd_same (s : Kr) (i : Nat) (v : Value) (k : World → Prop) (w : World) : (s.upd i v k).K i w = (s.K i w ∧ k w) := by simp [Kr.upd]
theorem Kr.upd_other (s : Kr) {i j : Nat} (v : Value) (k : World → Prop) (h : j ≠ i) (w : World) : (s.upd i v k).K j w = s.K j w := by simp [Kr.upd, h]
theorem Kr.val_other (s : Kr) {i j : Nat} (v : Value) (k : World → Prop) (h : j ≠ i) : (s.upd i v k).V j = s.V j := by simp [Kr.upd, h]
theorem Kr.late_other (s : Kr) {i j : Nat} (v : Value) (k : World → Prop) (h : j ≠ i) : (s.late i v k).V j = s.V j := by simp [Kr.late, h]
theorem Kr.upd_comm (s : Kr) {i j : Nat} (v u : Value) (k l : World → Prop) (h : i ≠ j) : (s.upd i v k).upd j u l = (s.upd j u l).upd i v k := by
  unfold Kr.upd
  congr 1
  · funext m w
    by_cases h1 : m = j
    · subst h1; simp [Ne.symm h]
    · simp [h1]
  · funext m
    by_cases h1 : m = j
    · subst h1; simp [Ne.symm h]
    · simp [h1]
theorem Kr.late_comm (s : Kr) {i j : Nat} (v u : Value) (k l : World → Prop) (h : i ≠ j) : (s.upd i v k).late j u l = (s.late j u l).upd i v k := by
  unfold Kr.upd Kr.late
  congr 1
  funext m
  by_cases h1 : m = j
  · subst h1; simp [Ne.symm h]
  · simp [h1]
theorem Kr.of_upd {s : Kr} {i : Nat} {v : Value} {k : World → Prop} {w : World} (h : ∀ j, (s.upd i v k).K j w) : (∀ j, s.K j w) ∧ k w := by
  refine ⟨fun j => ?_, ?_⟩
  · have := h j
    by_cases hj : j = i
    · subst hj; rw [Kr.upd_same] at this; exact this.1
    · rwa [Kr.upd_other s v k hj] at this
  · have := h i
    rw [Kr.upd_same] at this
    exact this.2
theorem Kr.to_upd {s : Kr} {i : Nat} {v : Value} {k : World → Prop} {w : World} (h : ∀ j, s.K j w) (hk : k w) : ∀ j, (s.upd i v k).K j w := fun j => by
  by_cases hj : j = i
  · subst hj; rw [Kr.upd_same]; exact ⟨h j, hk⟩
  · rw [Kr.upd_other s v k hj]; exact h j
/-- S lasts under R. -/
def Lasts (R : World → World → Prop) (S : World → Prop) : Prop := ∀ w w', S w → R w w' → S w'
theorem Lasts.true_ {R : World → World → Prop} : Lasts R fun _ => True := fun _ _ _ _ => trivial
theorem Lasts.pure {R : World → World → Prop} {p : Prop} : Lasts R fun _ => p := fun _ _ h _ => h
theorem Lasts.and {R : World → World → Prop} {S T : World → Prop} (h : Lasts R S) (k : Lasts R T) : Lasts R fun w => S w ∧ T w := fun w w' ⟨a, b⟩ hb => ⟨h w w' a hb, k w w' b hb⟩
/-- A relation between worlds that growing keeps. -/
structure Rel (R : World → World → Prop) : Prop where
  ext : ∀ {w w'}, Ext w w' → R w w'
  trans : ∀ {a b c}, R a b → R b c → R a c
  size : ∀ {w w'}, R w w' → w.heap.size ≤ w'.heap.size
theorem rel_ext : Rel Ext := ⟨fun h => h, Ext.trans, fun h => h.size⟩
/-- The world has grown, and of what was there only the blocks D may have turned. -/
structure Exc (D : Nat → Obj → Prop) (w w' : World) : Prop where
  os : w'.os = w.os
  tape : w'.tape = w.tape
  output : w'.output = w.output
  size : w.heap.size ≤ w'.heap.size
  block : ∀ k o, w.heap[k]? = some o → ¬ D k o → w'.heap[k]? = some o
theorem Exc.of_ext {D : Nat → Obj → Prop} {w w' : World} (h : Ext w w') : Exc D w w' := ⟨h.os, h.tape, h.output, h.size, fun k o hk _ => h.blk hk⟩
theorem Exc.trans {D : Nat → Obj → Prop} {a b c : World} (h : Exc D a b) (k : Exc D b c) : Exc D a c :=
  ⟨k.os.trans h.os, k.tape.trans h.tape, k.output.trans h.output, Nat.le_trans h.size k.size, fun i o hi hd => k.block i o (h.block i o hi hd) hd⟩
theorem rel_exc (D : Nat → Obj → Prop) : Rel (Exc D) := ⟨Exc.of_ext, Exc.trans, fun h => h.size⟩
theorem Exc.blk {D : Nat → Obj → Prop} {w w' : World} (h : Exc D w w') {g : Nat} {o : Obj} (hp : w.heap[g]? = some o) (hd : ¬ D g o) : w'.heap[g]? = some o := h.block g o hp hd
theorem Exc.of_only {D : Nat → Obj → Prop} {g : Nat} {w w' : World} (h : w.grownBy w' (some g)) (hd : ∀ o, w.heap[g]? = some o → D g o) : Exc D w w' :=
  ⟨h.os, h.tape, h.output, h.size, fun k o hk hn => (h.block k (Array.getElem?_eq_some_iff.1 hk).1 (fun e => by injection e with e; subst e; exact hn (hd o hk))).trans hk⟩
theorem Exc.of_grown {D : Nat → Obj → Prop} {row : Option Nat} {w w' : World} (h : w.grownBy w' row) (hd : ∀ g o, row = some g → w.heap[g]? = some o → D g o) : Exc D w w' :=
  ⟨h.os, h.tape, h.output, h.size, fun k o hk hn => (h.block k (Array.getElem?_eq_some_iff.1 hk).1 (fun e => hn (hd k o e.symm hk))).trans hk⟩
/-- In the end: what has turned is new. -/
theorem Exc.to_ext {D : Nat → Obj → Prop} {w0 w w' : World} (h : Exc D w w') (h0 : Ext w0 w) (hd : ∀ k o, D k o → w0.heap.size ≤ k) : Ext w0 w' := by
  refine ⟨h.os.trans h0.os, h.tape.trans h0.tape, h.output.trans h0.output, Nat.le_trans h0.size h.size, fun k hk => ?_⟩
  have h1 : w0.heap[k]? = some w0.heap[k] := Array.getElem?_eq_getElem hk
  rw [h1]
  exact h.block k _ (h0.blk h1) (fun e => by have := hd k _ e; omega)
theorem exc_refl (D : Nat → Obj → Prop) (w : World) : Exc D w w := Exc.of_ext (Below.refl _ _)
/-- As Exc, and each block keeps its type and its length. -/
structure Exk (D : Nat → Obj → Prop) (w w' : World) : Prop where
  x : Exc D w w'
  keep : ∀ (k : Nat) (cs : Array Value) (t : TypeId), w.heap[k]? = some (Obj.cells cs t (0, 0)) → ∃ cs' : Array Value, w'.heap[k]? = some (Obj.cells cs' t (0, 0)) ∧ cs'.size = cs.size
theorem Exk.of_ext {D : Nat → Obj → Prop} {w w' : World} (h : Ext w w') : Exk D w w' := ⟨Exc.of_ext h, fun k cs t hk => ⟨cs, h.blk hk, rfl⟩⟩
theorem Exk.trans {D : Nat → Obj → Prop} {a b c : World} (h : Exk D a b) (k : Exk D b c) : Exk D a c := ⟨h.x.trans k.x, fun q cs t hq => by
  obtain ⟨c1, h1, e1⟩ := h.keep q cs t hq
  obtain ⟨c2, h2, e2⟩ := k.keep q c1 t h1
  exact ⟨c2, h2, e2.trans e1⟩⟩
theorem rel_exk (D : Nat → Obj → Prop) : Rel (Exk D) := ⟨Exk.of_ext, Exk.trans, fun h => h.x.size⟩
theorem Exk.of_only {D : Nat → Obj → Prop} {g : Nat} {w w' : World} {cs old : Array Value} {t : TypeId} (h : w.grownBy w' (some g)) (h0 : w.heap[g]? = some (.cells old t (0, 0))) (h1 : w'.heap[g]? = some (.cells cs t (0, 0))) (hs : cs.size = old.size) (hd : D g (.cells old t (0, 0))) : Exk D w w' :=
  ⟨Exc.of_only h (fun o ho => by rw [h0] at ho; injection ho with ho; subst ho; exact hd), fun k c t' hk => by
    by_cases e : k = g
    · subst e
      rw [h0] at hk
      injection hk with hk
      injection hk with e1 e2
      subst e1 e2
      exact ⟨cs, h1, hs⟩
    · exact ⟨c, (h.block k (Array.getElem?_eq_some_iff.1 hk).1 (fun e' => e (by injection e'))).trans hk, rfl⟩⟩
/-- Early operations come ahead of all that write. -/
def Rx (R : World → World → Prop) (b : Bool) : World → World → Prop := match b with | true => Ext | false => R
/-- i waits for j, by however many edges. -/
def upon (md : Region.Mode) (ops : Array Oper) : Nat → Nat → Nat → Bool
  | 0, _, _ => false
  | f + 1, i, j => match ops[i]? with
    | some o => o.after.any fun e => Region.binds md e && (e.on == j || upon md ops f e.on j)
    | none => false
/-! ### Blocks that allocs make are blocks of their own -/
def ptrBlk' : Value → Option Nat
  | .pointer (some a) => some a.block
  | _ => none
/-- Is operation i an alloc, and no late one? -/
def al (ops : Array Oper) (lt : Nat → Option Sp) (i : Nat) : Bool := (match lt i with | some _ => false | none => true) && (match ops[i]? with
  | some o => (match o.op with | .alloc _ => true | _ => false)
  | none => false)
def PairAt (ops : Array Oper) (lt : Nat → Option Sp) (V : Nat → Value) (w : World) : Prop :=
  (∀ i, al ops lt i = true → ∀ g, ptrBlk' (V i) = some g → g < w.heap.size) ∧ ∀ i j, i ≠ j → al ops lt i = true → al ops lt j = true → ∀ g, ptrBlk' (V i) = some g → ptrBlk' (V j) ≠ some g
/-- No two allocs for which i waits have made one block. -/
def PairOn (md : Region.Mode) (ops : Array Oper) (lt : Nat → Option Sp) (i : Nat) (V : Nat → Value) : Prop :=
  ∀ i' j', upon md ops ops.size i i' = true → upon md ops ops.size i j' = true → i' ≠ j' → al ops lt i' = true → al ops lt j' = true → ∀ g, ptrBlk' (V i') = some g → ptrBlk' (V j') ≠ some g
def NewlyAt (ops : Array Oper) (lt : Nat → Option Sp) (i : Nat) (w : World) (v : Value) (w' : World) : Prop := al ops lt i = true → ∀ g, ptrBlk' v = some g → g = w.heap.size ∧ w.heap.size < w'.heap.size
theorem PairOn.of_at {md : Region.Mode} {ops : Array Oper} {lt : Nat → Option Sp} {i : Nat} {V : Nat → Value} {w : World} (h : PairAt ops lt V w) : PairOn md ops lt i V := fun i' j' _ _ hne h1 h2 => h.2 i' j' hne h1 h2
theorem PairOn.congr {md : Region.Mode} {ops : Array Oper} {lt : Nat → Option Sp} {i : Nat} {V V' : Nat → Value} (h : ∀ m, upon md ops ops.size i m = true → V m = V' m) : PairOn md ops lt i V ↔ PairOn md ops lt i V' := by
  constructor <;> intro hh i' j' h1 h2
  · rw [← h i' h1, ← h j' h2]; exact hh i' j' h1 h2
  · rw [h i' h1, h j' h2]; exact hh i' j' h1 h2
theorem al_late {ops : Array Oper} {lt : Nat → Option Sp} {i : Nat} {S : Sp} (h : lt i = some S) : al ops lt i = false := by simp [al, h]
theorem newly_undef' (ops : Array Oper) (lt : Nat → Option Sp) (i : Nat) (w w' : World) : NewlyAt ops lt i w undef w' := fun _ g hg => by cases hg
theorem PairAt.upd' {ops : Array Oper} {lt : Nat → Option Sp} {V V' : Nat → Value} {i : Nat} {v : Value} {w w' : World} (h : PairAt ops lt V w) (hV : ∀ m, V' m = if m = i then v else V m) (hs : w.heap.size ≤ w'.heap.size) (hn : NewlyAt ops lt i w v w') : PairAt ops lt V' w' := by
  refine ⟨fun m hm g hg => ?_, fun m j hne hm hj g hg hg' => ?_⟩
  · rw [hV] at hg
    split at hg
    · rename_i e
      subst e
      obtain ⟨h1, h2⟩ := hn hm g hg
      omega
    · have := h.1 m hm g hg
      omega
  · rw [hV] at hg hg'
    split at hg
    · rename_i e
      subst e
      obtain ⟨h1, _⟩ := hn hm g hg
      rw [if_neg (Ne.symm hne)] at hg'
      have := h.1 j hj g hg'
      omega
    · split at hg'
      · rename_i e
        subst e
        obtain ⟨h1, _⟩ := hn hj g hg'
        have := h.1 m hm g hg
        omega
      · exact h.2 m j hne hm hj g hg hg'
/-- An alloc changes its world: it is no operation of one value. -/
theorem no_al_one {P : Program} {ops : Array Oper} {lt : Nat → Option Sp} {i : Nat} {o : Oper} {ρ : Operand → Value} {v : Value} {w : World} (ho : ops[i]? = some o) (h : (execOp ρ o).run P w = .ok (.value v) w) : al ops lt i = false := by
  cases hal : al ops lt i with
  | false => rfl
  | true =>
    exfalso
    simp only [al, ho, Bool.and_eq_true] at hal
    obtain ⟨_, hal⟩ := hal
    cases hop : o.op <;> simp [hop] at hal
    rename_i ty
    cases hi : P.info? ty with
    | none => simp [execOp, hop, Instr.alloc, zeroValue, typeInfo, hi, Sem.run_bind] at h
    | some i =>
      cases hz : i.zero with
      | none => simp [execOp, hop, Instr.alloc, zeroValue, typeInfo, hi, hz, Sem.run_bind] at h
      | some z =>
        simp [execOp, hop, Instr.alloc, zeroValue, typeInfo, hi, hz, Sem.run_bind, newVar, newRow] at h
        have := congrArg (fun x : World => x.heap.size) h.2
        simp at this
section
variable {P : Program} {ops : Array Oper} {md : Region.Mode} {w0 : World} {sp lt : Nat → Option Sp} {er : Nat → Bool} {R : World → World → Prop}
/-- The operation ends normally, with a value and a world of which G holds. -/
def upAt (P : Program) (o : Oper) (a : Act) (G : Value → World → Prop) : Result Next → Prop := o.upon P a (fun a' w' => ∃ v, a' = a.put o.dst v ∧ G v w') (fun _ _ _ => False)
def opAt (P : Program) (o : Oper) (a : Act) (w : World) (G : Value → World → Prop) : Prop := upAt P o a G ((execOp a.eval o).run P w)
theorem upAt_value {o : Oper} {a : Act} {G : Value → World → Prop} {u : Value} {w : World} (h : G u w) : upAt P o a G (.ok (.value u) w) := ⟨u, rfl, h⟩
theorem upAt_enter {o : Oper} {a : Act} {G : Value → World → Prop} {f : FuncId} {args : Array Value} {w : World} (h : Calls P f args w fun e w' => ∃ u, e = .returned u ∧ G u w') : upAt P o a G (.ok (.enter f args) w) := by
  unfold upAt
  rw [Oper.upon_enter]
  refine h.mono fun e w' ⟨u, he, hG⟩ => ?_
  subst he
  exact ⟨u, rfl, hG⟩
theorem opAt_mono {o : Oper} {a : Act} {w : World} {G G' : Value → World → Prop} (h : ∀ v w', G v w' → G' v w') (hh : opAt P o a w G) : opAt P o a w G' := by
  unfold opAt upAt at *
  exact Oper.wp_mono (P := P) (o := o) (a := a) (w := w) (fun a' w' ⟨v, e, g⟩ => ⟨v, e, h v w' g⟩) hh
/-- By a law of lists. -/
theorem opAt_list {o : Oper} {a : Act} {w : World} {G : Value → World → Prop} (hg : o.guard = none) (ops : Array Oper) (h : ∀ Q : Exit → Act → World → Prop, (∀ v w', G v w' → Q .normal (a.put o.dst v) w') → wpList P ops Q [o] a w) : opAt P o a w G := by
  have h1 := h (fun e a' w' => e = .normal ∧ ∃ v, a' = a.put o.dst v ∧ G v w') (fun v w' hG => ⟨rfl, v, rfl, hG⟩)
  have hw : Region.wanted o (yielded ops a.tmps) = true := by simp [Region.wanted, hg]
  unfold wpList at h1
  simp only [hw, if_true] at h1
  rcases h1 with h1 | ⟨_, h1⟩
  · unfold opAt upAt
    unfold Oper.wp at h1
    generalize (execOp a.eval o).run P w = r at *
    cases r with
    | ok n w' =>
      cases n <;> simp only [Oper.upon] at h1 ⊢
      case value u => exact h1.2
      case skip => exact h1.2
      case defer d => exact h1.2
      case enter f args =>
        refine Calls.mono h1 (fun e w'' he => ?_)
        cases e with
        | returned v => exact he.2
        | panicked c => exact absurd he.1 (by simp)
        | outgrown => obtain ⟨_, _, hx, _⟩ := he; cases hx
      case row row args => exact Rows.mono h1 fun _ _ he => he.2
    | halt x w' =>
      cases x <;> simp only [Oper.upon] at h1 ⊢
      exact absurd h1.1 (by simp)
  · obtain ⟨_, _, hx, _⟩ := h1; cases hx
theorem opAt_ends {o : Oper} {a : Act} {w : World} {G : Value → World → Prop} (h : opAt P o a w G) : ∃ v w', G v w' := by
  unfold opAt upAt at h
  generalize (execOp a.eval o).run P w = r at *
  cases r with
  | ok n w' =>
    cases n <;> simp only [Oper.upon] at h
    case value u => obtain ⟨v, _, g⟩ := h; exact ⟨v, w', g⟩
    case skip => obtain ⟨v, _, g⟩ := h; exact ⟨v, w', g⟩
    case defer d => obtain ⟨v, _, g⟩ := h; exact ⟨v, w', g⟩
    case enter f args =>
      obtain ⟨e, w'', _, he, _⟩ := h []
      cases e with
      | returned u => obtain ⟨v, _, g⟩ := he; exact ⟨v, w'', g⟩
      | panicked c => exact he.elim
      | outgrown => obtain ⟨_, _, hx⟩ := he; exact hx.elim
    case row row args =>
      obtain ⟨v, w'', ⟨u, _, g⟩, _⟩ := h (Frame.enter P 0 #[] .normal) []
      exact ⟨u, w'', g⟩
  | halt x w' => cases x <;> simp only [Oper.upon] at h
theorem put_inj {a : Act} {di d : Option Tmp} {x u v : Value} (h : (a.put di x).put d u = (a.put di x).put d v) : a.put d u = a.put d v := by
  cases d with
  | none => rfl
  | some t =>
    have h2 : ∀ (b : Act), b.tmps.size = a.tmps.size → b.put (some t) u = b.put (some t) v → a.put (some t) u = a.put (some t) v := fun b hs hb => by
      simp only [Act.put, Act.mk.injEq, and_true] at hb ⊢
      by_cases ht : t < a.tmps.size
      · have e := congrArg (fun l => l[t]?) hb
        simp only [Array.getElem?_setIfInBounds, if_true, hs, ht] at e
        injection e with e
        rw [e]
      · rw [Array.setIfInBounds_eq_of_size_le (Nat.not_lt.1 ht), Array.setIfInBounds_eq_of_size_le (Nat.not_lt.1 ht)]
    refine h2 (a.put di x) ?_ h
    cases di <;> simp [Act.put]
theorem opAt_put {o oi : Oper} {x : Value} {a : Act} {w : World} {G : Value → World → Prop} (hs : ∀ cs b, o.op ≠ .select cs b) (h : ∀ d, oi.dst = some d → d ∉ o.looksAt ops) (h2 : ∀ d, oi.dst = some d → o.dst ≠ some d) :
    opAt P o (a.put oi.dst x) w G ↔ opAt P o a w G := by
  unfold opAt upAt
  rw [execOp_put o hs a oi.dst x h]
  generalize (execOp a.eval o).run P w = r
  have key : ∀ (u : Value) (w' : World), (∃ v, (a.put oi.dst x).put o.dst u = (a.put oi.dst x).put o.dst v ∧ G v w') ↔ (∃ v, a.put o.dst u = a.put o.dst v ∧ G v w') := fun u w' => by
    constructor
    · rintro ⟨v, e, g⟩; exact ⟨v, put_inj e, g⟩
    · rintro ⟨v, e, g⟩
      refine ⟨v, ?_, g⟩
      rw [Act.put_comm a x u h2, Act.put_comm a x v h2, e]
  cases r with
  | ok n w' =>
    cases n <;> simp only [Oper.upon]
    case value u => exact key u w'
    case skip => exact key _ w'
    case defer d =>
      constructor <;> rintro ⟨v, e, g⟩ <;> exfalso <;> have e2 := congrArg Act.defers e
      · cases hd : o.dst <;> cases hi : oi.dst <;> simp [Act.put, hd, hi] at e2
      · cases hd : o.dst <;> simp [Act.put, hd] at e2
    case enter f args =>
      constructor <;> refine fun hh => Calls.mono hh fun e w'' he => ?_ <;> cases e
      case mp.returned v => exact (key v w'').1 he
      case mp.panicked c => exact he
      case mp.outgrown => exact he
      case mpr.returned v => exact (key v w'').2 he
      case mpr.panicked c => exact he
      case mpr.outgrown => exact he
    case row row args => exact ⟨fun hh => Rows.mono hh fun v w'' he => (key v w'').1 he, fun hh => Rows.mono hh fun v w'' he => (key v w'').2 he⟩
  | halt y w' => cases y <;> simp only [Oper.upon]
/-- The operation yields v and leaves the world as it is, in every world that R leads to. -/
def oneIn (P : Program) (R : World → World → Prop) (w0 : World) (o : Oper) (a : Act) (v : Value) : Prop := ∀ w, R w0 w → (execOp a.eval o).run P w = .ok (.value v) w
theorem oneIn_put {o oi : Oper} {v u : Value} {a : Act} (hs : ∀ cs b, o.op ≠ .select cs b) (h : ∀ d, oi.dst = some d → d ∉ o.looksAt ops) :
    oneIn P R w0 o (a.put oi.dst v) u ↔ oneIn P R w0 o a u := by
  unfold oneIn
  rw [execOp_put o hs a oi.dst v h]
/-- In state a the operation number i can be carried out. -/
def Okr (P : Program) (md : Region.Mode) (ops : Array Oper) (R : World → World → Prop) (w0 : World) (sp lt : Nat → Option Sp) (er : Nat → Bool) (i : Nat) (o : Oper) (a : Act) (K : Kr) : Prop :=
  if Region.wanted o (yielded ops a.tmps) = true then
    match lt i with
    | some S => (∀ V v, Lasts Ext (S V v)) ∧ (∀ V V', (∀ j, upon md ops ops.size i j = true → V j = V' j) → S V = S V') ∧
        ∀ w, R w0 w → (∀ j, upon md ops ops.size i j = true → K.K j w) → K.F w → PairOn md ops lt i K.V → opAt P o a w fun v w' => R w w' ∧ S K.V v w'
    | none =>
      match sp i with
      | none => ∃ v, oneIn P (Rx R (er i)) w0 o a v
      | some S => (∀ V v, Lasts R (S V v)) ∧ (∀ V V', (∀ j, upon md ops ops.size i j = true → V j = V' j) → S V = S V') ∧
          ∀ w, R w0 w → (∀ j, upon md ops ops.size i j = true → K.K j w) → opAt P o a w fun v w' => Ext w w' ∧ S K.V v w' ∧ NewlyAt ops lt i w v w'
  else True
/-- What it may leave. -/
def Resr (P : Program) (ops : Array Oper) (R : World → World → Prop) (w0 : World) (sp lt : Nat → Option Sp) (er : Nat → Bool) (i : Nat) (o : Oper) (a : Act) (K : Kr) (v : Value) (k : World → Prop) : Prop :=
  if Region.wanted o (yielded ops a.tmps) = true then
    match lt i with
    | some S => k = S K.V v ∧ ∃ w, R w0 w ∧ S K.V v w
    | none =>
      match sp i with
      | none => oneIn P (Rx R (er i)) w0 o a v ∧ k = fun _ => True
      | some S => k = S K.V v
  else v = undef ∧ k = match lt i with | some _ => K.F | none => fun _ => True
def Kr.step (lt : Nat → Option Sp) (K : Kr) (i : Nat) (v : Value) (k : World → Prop) : Kr := match lt i with | some _ => K.late i v k | none => K.upd i v k
/-- All that is known lasts, and there is a world in which it holds (but for what is known of the call's own blocks). -/
structure Goodr (R : World → World → Prop) (w0 : World) (K : Kr) : Prop where
  k : ∀ j, Lasts R (K.K j)
  f : Lasts Ext K.F
  ex : ∃ w, R w0 w ∧ ∀ j, K.K j w
def rOp (P : Program) (md : Region.Mode) (ops : Array Oper) (R : World → World → Prop) (w0 : World) (sp lt : Nat → Option Sp) (er : Nat → Bool) (i : Nat) (N : Act → Kr → Prop) (a : Act) (K : Kr) : Prop :=
  match ops[i]? with
  | none => N a K
  | some o => Okr P md ops R w0 sp lt er i o a K ∧ ∀ v k, Resr P ops R w0 sp lt er i o a K v k → Goodr R w0 (K.step lt i v k) → N (a.put o.dst v) (K.step lt i v k)
theorem rOp_mono {i : Nat} {a : Act} {K : Kr} {N N' : Act → Kr → Prop} (hG : Goodr R w0 K) (h : ∀ a K, Goodr R w0 K → N a K → N' a K) (hh : rOp P md ops R w0 sp lt er i N a K) : rOp P md ops R w0 sp lt er i N' a K := by
  unfold rOp at *
  cases ho : ops[i]? with
  | none => simp only [ho] at hh ⊢; exact h _ _ hG hh
  | some o => simp only [ho] at hh ⊢; exact ⟨hh.1, fun v k hr hg => h _ _ hg (hh.2 v k hr hg)⟩
theorem lasts_upd {K : Kr} {i : Nat} {v : Value} {k : World → Prop} (h : ∀ j, Lasts R (K.K j)) (hk : Lasts R k) : ∀ j, Lasts R ((K.upd i v k).K j) := fun j w w' hw hb => by
  by_cases hj : j = i
  · subst hj
    rw [Kr.upd_same] at hw ⊢
    exact ⟨h j _ _ hw.1 hb, hk _ _ hw.2 hb⟩
  · rw [Kr.upd_other K v k hj] at hw ⊢
    exact h j _ _ hw hb
theorem Okr_put {j i : Nat} {o oi : Oper} {v : Value} {a : Act} {K : Kr} {k : World → Prop} (hs : ∀ cs b, o.op ≠ .select cs b) (h : ∀ d, oi.dst = some d → d ∉ o.looksAt ops) (h2 : ∀ d, oi.dst = some d → o.dst ≠ some d)
    (hd : upon md ops ops.size j i = false) (hc : lt i = none ∨ lt j = none) : Okr P md ops R w0 sp lt er j o (a.put oi.dst v) (K.step lt i v k) ↔ Okr P md ops R w0 sp lt er j o a K := by
  have hV : ∀ m, upon md ops ops.size j m = true → (K.step lt i v k).V m = K.V m := fun m hm => by
    have hne : m ≠ i := fun e => by subst e; rw [hd] at hm; cases hm
    unfold Kr.step
    split
    · exact Kr.late_other K v k hne
    · exact Kr.val_other K v k hne
  have e : ∀ w, (∀ m, upon md ops ops.size j m = true → (K.step lt i v k).K m w) ↔ (∀ m, upon md ops ops.size j m = true → K.K m w) := by
    intro w
    have hK : ∀ m, upon md ops ops.size j m = true → ((K.step lt i v k).K m w ↔ K.K m w) := fun m hm => by
      have hne : m ≠ i := fun e => by subst e; rw [hd] at hm; cases hm
      unfold Kr.step
      split
      · exact Iff.rfl
      · rw [Kr.upd_other K v k hne]
    exact ⟨fun hh m hm => (hK m hm).1 (hh m hm), fun hh m hm => (hK m hm).2 (hh m hm)⟩
  unfold Okr
  rw [wanted_put o a oi.dst v h]
  split
  · cases hl : lt j with
    | some S =>
      have hF : (K.step lt i v k).F = K.F := by
        rcases hc with hc | hc
        · unfold Kr.step; rw [hc]; rfl
        · rw [hl] at hc; cases hc
      have hPP : PairOn md ops lt j (K.step lt i v k).V ↔ PairOn md ops lt j K.V := PairOn.congr hV
      simp only [opAt_put hs h h2, e, hF, hPP]
      constructor
      · rintro ⟨h1, h3, h4⟩
        refine ⟨h1, h3, ?_⟩
        rw [h3 K.V (K.step lt i v k).V fun m hm => (hV m hm).symm]
        exact h4
      · rintro ⟨h1, h3, h4⟩
        refine ⟨h1, h3, ?_⟩
        rw [h3 (K.step lt i v k).V K.V hV]
        exact h4
    | none =>
      cases sp j with
      | none => simp only [oneIn_put hs h]
      | some S =>
        simp only [opAt_put hs h h2, e]
        constructor
        · rintro ⟨h1, h3, h4⟩
          refine ⟨h1, h3, ?_⟩
          rw [h3 K.V (K.step lt i v k).V fun m hm => (hV m hm).symm]
          exact h4
        · rintro ⟨h1, h3, h4⟩
          refine ⟨h1, h3, ?_⟩
          rw [h3 (K.step lt i v k).V K.V hV]
          exact h4
  · rfl
/-- S, of an operation that does not wait for i, does not look at i's value. -/
def Apartr (md : Region.Mode) (ops : Array Oper) (sp lt : Nat → Option Sp) (j : Nat) : Prop :=
  ∀ S, (lt j = some S ∨ lt j = none ∧ sp j = some S) → ∀ V V', (∀ m, upon md ops ops.size j m = true → V m = V' m) → S V = S V'
theorem Okr.apart {j : Nat} {o : Oper} {a : Act} {K : Kr} (h : Okr P md ops R w0 sp lt er j o a K) (hw : Region.wanted o (yielded ops a.tmps) = true) : Apartr md ops sp lt j := by
  intro S hS
  unfold Okr at h
  simp only [hw, if_true] at h
  rcases hS with hS | ⟨h1, hS⟩
  · simp only [hS] at h; exact h.2.1
  · simp only [h1, hS] at h; exact h.2.1
theorem Resr_put {j i : Nat} {o oi : Oper} {v u : Value} {a : Act} {K : Kr} {k l : World → Prop} (hs : ∀ cs b, o.op ≠ .select cs b) (h : ∀ d, oi.dst = some d → d ∉ o.looksAt ops)
    (hd : upon md ops ops.size j i = false) (hc : lt i = none ∨ lt j = none) (ha : Region.wanted o (yielded ops a.tmps) = true → Apartr md ops sp lt j) :
    Resr P ops R w0 sp lt er j o (a.put oi.dst v) (K.step lt i v k) u l ↔ Resr P ops R w0 sp lt er j o a K u l := by
  have hV : ∀ m, upon md ops ops.size j m = true → (K.step lt i v k).V m = K.V m := fun m hm => by
    have hne : m ≠ i := fun e => by subst e; rw [hd] at hm; cases hm
    unfold Kr.step
    split
    · exact Kr.late_other K v k hne
    · exact Kr.val_other K v k hne
  unfold Resr
  rw [wanted_put o a oi.dst v h]
  split
  · rename_i hw
    cases hl : lt j with
    | some S => simp only [ha hw S (.inl hl) (K.step lt i v k).V K.V hV]
    | none =>
      cases hsp : sp j with
      | none => simp only [oneIn_put hs h]
      | some S => simp only [ha hw S (.inr ⟨hl, hsp⟩) (K.step lt i v k).V K.V hV]
  · cases hl : lt j with
    | some S =>
      have hF : (K.step lt i v k).F = K.F := by
        rcases hc with hc | hc
        · unfold Kr.step; rw [hc]; rfl
        · rw [hl] at hc; cases hc
      simp only [hF]
    | none => rfl
theorem Okr.lasts {i : Nat} {o : Oper} {a : Act} {K : Kr} {v : Value} {k : World → Prop} (h : Okr P md ops R w0 sp lt er i o a K) (hl : lt i = none) (hr : Resr P ops R w0 sp lt er i o a K v k) : Lasts R k := by
  unfold Okr at h
  unfold Resr at hr
  by_cases hw : Region.wanted o (yielded ops a.tmps) = true
  · simp only [hw, if_true, hl] at h hr
    cases hsp : sp i with
    | none => simp only [hsp] at h hr; rw [hr.2]; exact Lasts.true_
    | some S => simp only [hsp] at h hr; rw [hr]; exact h.1 _ v
  · simp only [hw, hl] at hr; rw [hr.2]; exact Lasts.true_
theorem Okr.lastsF {i : Nat} {o : Oper} {a : Act} {K : Kr} {v : Value} {k : World → Prop} {S : Sp} (h : Okr P md ops R w0 sp lt er i o a K) (hF : Lasts Ext K.F) (hl : lt i = some S) (hr : Resr P ops R w0 sp lt er i o a K v k) : Lasts Ext k := by
  unfold Okr at h
  unfold Resr at hr
  by_cases hw : Region.wanted o (yielded ops a.tmps) = true
  · simp only [hw, if_true, hl] at h hr
    rw [hr.1]; exact h.1 _ v
  · simp only [hw, hl] at hr; rw [hr.2]; exact hF
theorem step_good {i : Nat} {o : Oper} {a : Act} {K : Kr} {v : Value} {k : World → Prop} (hG : Goodr R w0 K) (h : Okr P md ops R w0 sp lt er i o a K) (hr : Resr P ops R w0 sp lt er i o a K v k)
    (hx : ∃ w, R w0 w ∧ ∀ j, (K.step lt i v k).K j w) : Goodr R w0 (K.step lt i v k) := by
  cases hl : lt i with
  | none =>
    have e : K.step lt i v k = K.upd i v k := by unfold Kr.step; rw [hl]
    rw [e] at hx ⊢
    exact ⟨lasts_upd hG.k (h.lasts hl hr), hG.f, hx⟩
  | some S =>
    have e : K.step lt i v k = K.late i v k := by unfold Kr.step; rw [hl]
    rw [e] at hx ⊢
    exact ⟨hG.k, h.lastsF hG.f hl hr, hx⟩
theorem Okr_res (hR : Rel R) {i : Nat} {o : Oper} {a : Act} {K : Kr} (hl : lt i = none) (hG : Goodr R w0 K) (h : Okr P md ops R w0 sp lt er i o a K) : ∃ v k, Resr P ops R w0 sp lt er i o a K v k ∧ Goodr R w0 (K.step lt i v k) := by
  obtain ⟨w, hC, hK⟩ := hG.ex
  have e : ∀ v k, K.step lt i v k = K.upd i v k := fun v k => by unfold Kr.step; rw [hl]
  have h0 := h
  unfold Okr at h
  by_cases hw : Region.wanted o (yielded ops a.tmps) = true
  · simp only [hw, if_true, hl] at h
    cases hsp : sp i with
    | none =>
      simp only [hsp] at h
      obtain ⟨v, hv⟩ := h
      have hr : Resr P ops R w0 sp lt er i o a K v fun _ => True := by unfold Resr; simp only [hw, if_true, hl, hsp]; exact ⟨hv, trivial⟩
      exact ⟨v, _, hr, step_good hG h0 hr ⟨w, hC, by rw [e]; exact Kr.to_upd hK trivial⟩⟩
    | some S =>
      simp only [hsp] at h
      obtain ⟨u, w', hb, hS, _⟩ := opAt_ends (h.2.2 w hC fun j _ => hK j)
      have hr : Resr P ops R w0 sp lt er i o a K u (S K.V u) := by unfold Resr; simp only [hw, if_true, hl, hsp]
      exact ⟨u, _, hr, step_good hG h0 hr ⟨w', hR.trans hC (hR.ext hb), by rw [e]; exact Kr.to_upd (fun j => hG.k j _ _ (hK j) (hR.ext hb)) hS⟩⟩
  · have hr : Resr P ops R w0 sp lt er i o a K undef fun _ => True := by unfold Resr; simp [hw, hl]
    exact ⟨undef, _, hr, step_good hG h0 hr ⟨w, hC, by rw [e]; exact Kr.to_upd hK trivial⟩⟩
theorem step_comm {K : Kr} {i j : Nat} {v u : Value} {k l : World → Prop} (hi : lt i = none) (h : i ≠ j) : (K.step lt i v k).step lt j u l = (K.step lt j u l).step lt i v k := by
  unfold Kr.step
  rw [hi]
  cases lt j with
  | none => exact Kr.upd_comm K v u k l h
  | some _ => exact Kr.late_comm K v u k l h
/-- Two operations that are apart, neither of which waits for the other, the first of which is mild: which comes first makes no difference. -/
theorem rOp_swap (hR : Rel R) {i j : Nat} {oi oj : Oper} (hi : ops[i]? = some oi) (hj : ops[j]? = some oj) (hne : i ≠ j) (hap : oi.apart ops oj = true) (hli : lt i = none)
    (hsi : ∀ cs b, oi.op ≠ .select cs b) (hsj : ∀ cs b, oj.op ≠ .select cs b) (hij : upon md ops ops.size i j = false) (hji : upon md ops ops.size j i = false)
    {N : Act → Kr → Prop} {a : Act} {K : Kr} (hG : Goodr R w0 K) (h : rOp P md ops R w0 sp lt er i (fun a' K' => rOp P md ops R w0 sp lt er j N a' K') a K) :
    rOp P md ops R w0 sp lt er j (fun a' K' => rOp P md ops R w0 sp lt er i N a' K') a K := by
  obtain ⟨h1, h2, h3⟩ := Oper.apart_spec hap
  have h2' : ∀ d, oj.dst = some d → oi.dst ≠ some d := fun d hd he => h2 d he hd
  unfold rOp at *
  simp only [hi, hj] at *
  obtain ⟨hok, hn⟩ := h
  obtain ⟨v0, k0, hr0, hg0⟩ := Okr_res hR hli hG hok
  have hokj0 := (Okr_put (oi := oi) hsj h1 h2 hji (.inl hli)).1 (hn v0 k0 hr0 hg0).1
  refine ⟨hokj0, fun u l hrl hgl => ⟨(Okr_put (oi := oj) hsi h3 h2' hij (.inr hli)).2 hok, fun v k hrk hg2 => ?_⟩⟩
  have hrk' := (Resr_put (oi := oj) hsi h3 hij (.inr hli) fun hw => hok.apart hw).1 hrk
  have ei : ∀ (K' : Kr) v k, K'.step lt i v k = K'.upd i v k := fun K' v k => by unfold Kr.step; rw [hli]
  have hex : ∃ w, R w0 w ∧ ∀ m, (K.step lt i v k).K m w := by
    obtain ⟨w, hC, hKw⟩ := hg2.ex
    rw [ei] at hKw
    obtain ⟨hA, hB⟩ := Kr.of_upd hKw
    refine ⟨w, hC, ?_⟩
    rw [ei]
    refine Kr.to_upd ?_ hB
    unfold Kr.step at hA
    cases hl : lt j with
    | none => simp only [hl] at hA; exact (Kr.of_upd hA).1
    | some S => simp only [hl] at hA; exact hA
  have hgi : Goodr R w0 (K.step lt i v k) := step_good hG hok hrk' hex
  obtain ⟨hokj, hnj⟩ := hn v k hrk' hgi
  have hrl' := (Resr_put (oi := oi) (v := v) (k := k) hsj h1 hji (.inl hli) fun hw => hokj0.apart hw).2 hrl
  have := hnj u l hrl' (step_good hgi hokj hrl' (by rw [step_comm hli hne]; exact hg2.ex))
  rw [Act.put_comm a v u h2, step_comm hli hne] at this
  exact this
theorem upon_ready {listed : Array Bool} (inv : HeadInv md ops ops.size listed) {i j : Nat} (hr : i ∈ Region.ready md ops listed) (hun : listed.getD j true = false) :
    ∀ f, upon md ops f i j = false := by
  have key : ∀ f k, listed.getD k false = true → upon md ops f k j = false := by
    intro f
    induction f with
    | zero => intro k _; rfl
    | succ f ih =>
      intro k hk
      cases ho : ops[k]? with
      | none => simp [upon, ho]
      | some o =>
        simp only [upon, ho]
        rw [Array.any_eq_false']
        intro e he
        cases hb : Region.binds md e with
        | false => simp
        | true =>
          have hl := inv.closed k o ho hk e he hb
          have hne : e.on ≠ j := fun heq => by rw [heq, getD_both hun] at hl; cases hl
          simp [hne, ih e.on hl]
  intro f
  obtain ⟨_, oi, hoi, hall⟩ := mem_ready.1 hr
  cases f with
  | zero => rfl
  | succ f =>
    simp only [upon, hoi]
    rw [Array.any_eq_false']
    intro e he
    cases hb : Region.binds md e with
    | false => simp
    | true =>
      have hl := hall e he hb
      have hne : e.on ≠ j := fun heq => by rw [heq, getD_both hun] at hl; cases hl
      simp [hne, key f e.on hl]
/-- Whatever order is picked. -/
def wpAnyR (P : Program) (md : Region.Mode) (ops : Array Oper) (R : World → World → Prop) (w0 : World) (sp lt : Nat → Option Sp) (er : Nat → Bool) (L : Act → Kr → Prop) : Nat → Array Bool → Act → Kr → Prop
  | 0, listed, a, K => Region.ready md ops listed = [] ∧ L a K
  | f + 1, listed, a, K => Region.ready md ops listed ≠ [] ∧ ∀ i ∈ Region.ready md ops listed, rOp P md ops R w0 sp lt er i (wpAnyR P md ops R w0 sp lt er L f (listed.setIfInBounds i true)) a K
theorem wpAnyR_first (hR : Rel R) {i : Nat} {oi : Oper} {L : Act → Kr → Prop} (hi : ops[i]? = some oi) (hsel : ∀ (j : Nat) (o : Oper) cs b, ops[j]? = some o → o.op ≠ .select cs b) (hli : lt i = none) :
    ∀ (f : Nat) (listed : Array Bool) (a : Act) (K : Kr), Goodr R w0 K → HeadInv md ops ops.size listed →
      (∀ j oj, ops[j]? = some oj → j ≠ i → listed.getD j true = false → (∀ e ∈ oj.after, Region.binds md e = true → e.on ≠ i) → oi.apart ops oj = true) →
      i ∈ Region.ready md ops listed →
      rOp P md ops R w0 sp lt er i (wpAnyR P md ops R w0 sp lt er L f (listed.setIfInBounds i true)) a K → wpAnyR P md ops R w0 sp lt er L (f + 1) listed a K := by
  intro f
  induction f with
  | zero =>
    intro listed a K hG inv _ hr H
    refine ⟨fun h => (by rw [h] at hr; cases hr), fun j hj => ?_⟩
    by_cases hji : j = i
    · subst hji; exact H
    · exfalso
      unfold rOp at H
      simp only [hi] at H
      obtain ⟨v, k, hr', hg'⟩ := Okr_res hR hli hG H.1
      have h0 := (H.2 v k hr' hg').1
      have := ready_mono hj hji
      rw [h0] at this
      cases this
  | succ f ih =>
    intro listed a K hG inv hfree hr H
    have hun := (mem_ready.1 hr).1
    refine ⟨fun h => (by rw [h] at hr; cases hr), fun j hj => ?_⟩
    by_cases hji : j = i
    · subst hji; exact H
    · obtain ⟨hjun, oj, hoj, hall⟩ := mem_ready.1 hj
      have hjn : j < ops.size := (Array.getElem?_eq_some_iff.1 hoj).1
      have hnot : ∀ e ∈ oj.after, Region.binds md e = true → e.on ≠ i := fun e he hb heq => by
        have h1 := hall e he hb
        rw [heq, getD_both hun] at h1
        cases h1
      have h1 : rOp P md ops R w0 sp lt er i (fun a' K' => rOp P md ops R w0 sp lt er j (wpAnyR P md ops R w0 sp lt er L f ((listed.setIfInBounds i true).setIfInBounds j true)) a' K') a K :=
        rOp_mono hG (fun a' K' _ h => h.2 j (ready_mono hj hji)) H
      have h2 := rOp_swap hR hi hoj (Ne.symm hji) (hfree j oj hoj hji hjun hnot) hli (fun cs b => hsel i oi cs b hi) (fun cs b => hsel j oj cs b hoj)
        (upon_ready inv hr hjun _) (upon_ready inv hj hun _) hG h1
      have hfree' : ∀ k ok, ops[k]? = some ok → k ≠ i → (listed.setIfInBounds j true).getD k true = false →
          (∀ e ∈ ok.after, Region.binds md e = true → e.on ≠ i) → oi.apart ops ok = true := fun k ok hk hki hu hno => by
        refine hfree k ok hk hki ?_ hno
        by_cases hjk : j = k
        · subst hjk; exact hjun
        · rw [getD_set_ne true hjk] at hu; exact hu
      refine rOp_mono hG (fun a' K' hG' h3 => ih (listed.setIfInBounds j true) a' K' hG' (inv.set hj hjn) hfree' (ready_mono hr (Ne.symm hji)) ?_) h2
      rw [Array.setIfInBounds_comm _ _ hji]
      exact h3
/-- The walk in the order that was chosen. -/
def wpR (P : Program) (md : Region.Mode) (ops : Array Oper) (R : World → World → Prop) (w0 : World) (sp lt : Nat → Option Sp) (er : Nat → Bool) (L : Act → Kr → Prop) : List Nat → Act → Kr → Prop
  | [], a, K => L a K
  | i :: rest, a, K => rOp P md ops R w0 sp lt er i (wpR P md ops R w0 sp lt er L rest) a K
/-- All that writes waits for the early operations. -/
def earlyB (md : Region.Mode) (ops : Array Oper) (late er : Nat → Bool) : Bool := (List.range ops.size).all fun i => match er i with
  | true => (List.range ops.size).all fun l => (match late l with | true => upon md ops ops.size l i | false => true)
  | false => true
/-- May the operations be walked in this order? -/
def orderGo (md : Region.Mode) (ops : Array Oper) (late : Nat → Bool) : List Nat → Array Bool → Bool
  | [], listed => (Region.ready md ops listed).isEmpty
  | i :: rest, listed => (match late i with | true => decide (Region.ready md ops listed = [i]) | false => (Region.ready md ops listed).contains i && Region.free md ops listed i) && orderGo md ops late rest (listed.setIfInBounds i true)
def orderB (md : Region.Mode) (ops : Array Oper) (late er : Nat → Bool) (order : List Nat) : Bool :=
  Region.noSelect ops && earlyB md ops late er && decide (order.length = ops.size) && orderGo md ops late order (Array.replicate ops.size false)
theorem wpAnyR_order (hR : Rel R) {L : Act → Kr → Prop} (hsel : Region.noSelect ops = true) :
    ∀ (l : List Nat) (listed : Array Bool) (a : Act) (K : Kr), Goodr R w0 K → HeadInv md ops ops.size listed → orderGo md ops (fun i => (lt i).isSome) l listed = true →
      wpR P md ops R w0 sp lt er L l a K → wpAnyR P md ops R w0 sp lt er L l.length listed a K
  | [], listed, a, K, _, _, hB, h => ⟨by simpa [orderGo] using hB, h⟩
  | i :: l, listed, a, K, hG, inv, hB, h => by
    simp only [orderGo, Bool.and_eq_true] at hB
    obtain ⟨h1, hB'⟩ := hB
    cases hl : lt i with
    | some S =>
      simp only [hl, Option.isSome_some, decide_eq_true_eq] at h1
      have hi : i ∈ Region.ready md ops listed := by rw [h1]; simp
      obtain ⟨_, oi, hoi, _⟩ := mem_ready.1 hi
      refine ⟨fun h0 => (by rw [h1] at h0; cases h0), fun j hj => ?_⟩
      rw [h1] at hj
      have hji : j = i := by simpa using hj
      subst hji
      exact rOp_mono hG (fun a' K' hG' h' => wpAnyR_order hR hsel l _ a' K' hG' (inv.set hi (Array.getElem?_eq_some_iff.1 hoi).1) hB' h') h
    | none =>
      simp only [hl, Option.isSome_none, Bool.and_eq_true] at h1
      have hi : i ∈ Region.ready md ops listed := by simpa using h1.1
      obtain ⟨_, oi, hoi, _⟩ := mem_ready.1 hi
      exact wpAnyR_first hR hoi (Region.noSelect_spec hsel) hl l.length listed a K hG inv (Region.free_spec hoi h1.2) hi
        (rOp_mono hG (fun a' K' hG' h' => wpAnyR_order hR hsel l _ a' K' hG' (inv.set hi (Array.getElem?_eq_some_iff.1 hoi).1) hB' h') h)
theorem opAt_wp {o : Oper} {a : Act} {w : World} {G : Value → World → Prop} {K' : Act → World → Prop} {Q' : Exit → Act → World → Prop} (h : opAt P o a w G) (hn : ∀ v w', G v w' → K' (a.put o.dst v) w') : o.wp P a w K' Q' := by
  unfold opAt upAt at h
  unfold Oper.wp
  generalize (execOp a.eval o).run P w = r at *
  cases r with
  | ok n w' =>
    cases n <;> simp only [Oper.upon] at h ⊢
    case value u => obtain ⟨v, e, g⟩ := h; rw [e]; exact hn v w' g
    case skip => obtain ⟨v, e, g⟩ := h; rw [e]; exact hn v w' g
    case defer d => obtain ⟨v, e, g⟩ := h; rw [e]; exact hn v w' g
    case enter f args =>
      refine Calls.mono h fun e w'' he => ?_
      cases e with
      | returned u => obtain ⟨v, e, g⟩ := he; show K' _ _; rw [e]; exact hn v w'' g
      | panicked c => exact he.elim
      | outgrown => obtain ⟨_, _, hx⟩ := he; exact hx.elim
    case row row args => exact Rows.mono h fun u w'' ⟨v, e, g⟩ => by rw [e]; exact hn v w'' g
  | halt y w' => cases y <;> simp only [Oper.upon] at h
theorem wpOp_of_rOp (hR : Rel R) {i : Nat} {a : Act} {K : Kr} {N : Act → Kr → Prop} {K' : Act → World → Prop} {Q' : Exit → Act → World → Prop} {w : World}
    (hC : R w0 w) (hK : ∀ j, K.K j w) (hF : K.F w) (hG : Goodr R w0 K) (hE : er i = true → Ext w0 w) (hP : PairAt ops lt K.V w) (hRs : ∀ {x y}, R x y → x.heap.size ≤ y.heap.size)
    (h : ∀ a' K1 w', (lt i = none → Ext w w') → PairAt ops lt K1.V w' → R w0 w' → (∀ j, K1.K j w') → K1.F w' → Goodr R w0 K1 → N a' K1 → K' a' w') (h0 : ops[i]? ≠ none) (hh : rOp P md ops R w0 sp lt er i N a K) : wpOp P ops Q' i K' a w := by
  unfold rOp at hh
  unfold wpOp
  cases ho : ops[i]? with
  | none => exact absurd ho h0
  | some o =>
    simp only [ho] at hh ⊢
    obtain ⟨hok, hn⟩ := hh
    have hok0 := hok
    have fin : ∀ {w'} (v : Value) (k : World → Prop), (lt i = none → Ext w w') → w.heap.size ≤ w'.heap.size → NewlyAt ops lt i w v w' → R w0 w' → (∀ j, (K.step lt i v k).K j w') → (K.step lt i v k).F w' → Resr P ops R w0 sp lt er i o a K v k → K' (a.put o.dst v) w' := fun {w'} v k hx hsz hnw hC' hK' hF' hr => by
      have hg := step_good hG hok hr ⟨w', hC', hK'⟩
      exact h _ _ w' hx (hP.upd' (i := i) (v := v) (fun m => by unfold Kr.step; cases lt i <;> rfl) hsz hnw) hC' hK' hF' hg (hn v k hr hg)
    unfold Okr at hok
    unfold Resr at fin
    unfold Kr.step at fin
    by_cases hw : Region.wanted o (yielded ops a.tmps) = true
    · simp only [hw, if_true] at hok fin ⊢
      refine .inl ?_
      cases hl : lt i with
      | some S =>
        simp only [hl] at hok fin
        exact opAt_wp (hok.2.2 w hC (fun j _ => hK j) hF (PairOn.of_at hP)) fun v w' ⟨hr, hS⟩ => fin v _ (fun h => by cases h) (hRs hr) (fun hal => by rw [al_late hl] at hal; cases hal) (hR.trans hC hr) (fun j => hG.k j _ _ (hK j) hr) hS ⟨rfl, w', hR.trans hC hr, hS⟩
      | none =>
        cases hsp : sp i with
        | none =>
          simp only [hl, hsp] at hok fin
          obtain ⟨v, hv⟩ := hok
          have hw' : Rx R (er i) w0 w := by
            cases he : er i with
            | true => exact hE he
            | false => exact hC
          unfold Oper.wp
          rw [hv w hw']
          exact fin v _ (fun _ => Below.refl _ _) (Nat.le_refl _) (fun hal => by rw [no_al_one ho (hv w hw')] at hal; cases hal) hC (Kr.to_upd hK trivial) hF ⟨hv, rfl⟩
        | some S =>
          simp only [hl, hsp] at hok fin
          exact opAt_wp (hok.2.2 w hC fun j _ => hK j) fun u w' ⟨hb, hu, hnw⟩ => fin u _ (fun _ => hb) hb.size hnw (hR.trans hC (hR.ext hb)) (Kr.to_upd (fun j => hG.k j _ _ (hK j) (hR.ext hb)) hu) (hG.f _ _ hF hb) rfl
    · simp only [hw] at fin ⊢
      cases hl : lt i with
      | some S =>
        simp only [hl] at fin
        exact fin undef _ (fun h => by cases h) (Nat.le_refl _) (newly_undef' _ _ _ _ _) hC hK hF ⟨rfl, rfl⟩
      | none =>
        simp only [hl] at fin
        exact fin undef _ (fun _ => Below.refl _ _) (Nat.le_refl _) (newly_undef' _ _ _ _ _) hC (Kr.to_upd hK trivial) hF ⟨rfl, rfl⟩
theorem upon_listed {listed : Array Bool} (inv : HeadInv md ops ops.size listed) {i : Nat} : ∀ (f l : Nat), upon md ops f l i = true → listed.getD l false = true → listed.getD i false = true := by
  intro f
  induction f with
  | zero => intro l h; cases h
  | succ f ih =>
    intro l h hl
    cases ho : ops[l]? with
    | none => simp [upon, ho] at h
    | some o =>
      simp only [upon, ho] at h
      obtain ⟨e, he, hb⟩ := Array.any_eq_true'.1 h
      simp only [Bool.and_eq_true, Bool.or_eq_true, beq_iff_eq] at hb
      have h1 := inv.closed l o ho hl e he hb.1
      rcases hb.2 with h2 | h2
      · rw [← h2]; exact h1
      · exact ih e.on h2 h1
theorem earlyB_spec {late : Nat → Bool} (h : earlyB md ops late er = true) {i l : Nat} (hi : i < ops.size) (hl : l < ops.size) (he : er i = true) (hL : late l = true) : upon md ops ops.size l i = true := by
  unfold earlyB at h
  rw [List.all_eq_true] at h
  have h1 := h i (List.mem_range.2 hi)
  rw [he] at h1
  have h2 := List.all_eq_true.1 h1 l (List.mem_range.2 hl)
  rwa [hL] at h2
theorem wpAny_of_R (hR : Rel R) {L : Act → Kr → Prop} {Q' : Exit → Act → World → Prop} (hB : earlyB md ops (fun i => (lt i).isSome) er = true) (hL : ∀ a K w, R w0 w → (∀ j, K.K j w) → K.F w → L a K → Q' .normal a w) :
    ∀ (f : Nat) (listed : Array Bool) (a : Act) (K : Kr) (w : World), R w0 w → (∀ j, K.K j w) → K.F w → Goodr R w0 K → PairAt ops lt K.V w → HeadInv md ops ops.size listed → ((∀ l, l < ops.size → (lt l).isSome = true → listed.getD l true = false) → Ext w0 w) →
      wpAnyR P md ops R w0 sp lt er L f listed a K → wpAny P md ops Q' f listed a w
  | 0, listed, a, K, w, hC, hK, hF, _, _, _, _, h => ⟨h.1, hL _ _ _ hC hK hF h.2⟩
  | f + 1, listed, a, K, w, hC, hK, hF, hG, hP, inv, hX, h => by
    refine ⟨fun h0 => absurd h0 h.1, fun i hi => ?_⟩
    obtain ⟨hun, oi, hoi, _⟩ := mem_ready.1 hi
    have hin := (Array.getElem?_eq_some_iff.1 hoi).1
    refine wpOp_of_rOp hR hC hK hF hG (fun he => hX fun l hl hlt => ?_) hP hR.size (fun a' K1 w' hx hP' hC' hK' hF' hG' h' => wpAny_of_R hR hB hL f _ a' _ w' hC' hK' hF' hG' hP' (inv.set hi hin) (fun hall => ?_) h') (by rw [hoi]; exact nofun) (h.2 i hi)
    · cases hc : listed.getD l true with
      | false => rfl
      | true =>
        have hls : l < listed.size := by rw [inv.size]; exact hl
        have h1 : listed.getD l false = true := by simp [hls] at hc ⊢; exact hc
        have h2 := upon_listed inv _ _ (earlyB_spec hB hin hl he hlt) h1
        rw [getD_both hun] at h2
        cases h2
    · have hli : lt i = none := by
        cases hlt : lt i with
        | none => rfl
        | some S =>
          have h1 := hall i hin (by rw [hlt]; rfl)
          have his : i < listed.size := by rw [inv.size]; exact hin
          simp [his] at h1
      refine Ext.trans (hX fun l hl hlt => ?_) (hx hli)
      have h1 := hall l hl hlt
      rwa [getD_set_ne true (fun e => by subst e; rw [hli] at hlt; cases hlt)] at h1
end
/-- THE RULE. One walk in an order of one's own serves every order that the edges allow. -/
theorem wp_region_rg {P : Program} {id : Nat} {Q : Exit → Act → World → Prop} {a : Act} {w : World} {l : List Oper} (R : World → World → Prop) (hR : Rel R) (F0 : World → Prop) (order : List Nat) (sp lt : Nat → Option Sp) (er : Nat → Bool)
    (hm : P.follows .mixedOrders = true) (hB : orderB .any l.toArray (fun i => (lt i).isSome) er order = true) (hF0 : Lasts Ext F0) (hF : F0 w.drew)
    (h : ∀ (W : World) (N : Act → Kr → Prop), Ext w W → F0 W → (∀ a' K, (∀ w', R W w' → (∀ j, K.K j w') → K.F w' → Q .normal a' w') → N a' K) → wpR P .any l.toArray R W sp lt er N order a (Kr.init F0)) : (Code.region id l.toArray true).wp P Q a w := by
  replace h := h w.drew _ (Below.refl _ _).drew hF (fun _ _ h => h)
  simp only [orderB, Bool.and_eq_true, decide_eq_true_eq] at hB
  obtain ⟨⟨⟨hsel, her⟩, hlen⟩, hgo⟩ := hB
  have inv0 : HeadInv .any l.toArray l.toArray.size (Array.replicate l.toArray.size false) :=
    ⟨by simp, fun j oj _ hl => (by rw [getD_replicate_false] at hl; cases hl), fun t ht1 ht => absurd ht (by omega)⟩
  have hG : Goodr R w.drew (Kr.init F0) := ⟨fun _ => Lasts.true_, hF0, w.drew, hR.ext (Below.refl _ _), fun _ => trivial⟩
  have H := wpAnyR_order hR hsel order _ a _ hG inv0 hgo h
  refine wp_region_any hm ?_
  have F := wpAny_of_R (Q' := Q) (w0 := w.drew) (L := fun a' K => ∀ w', R w.drew w' → (∀ j, K.K j w') → K.F w' → Q .normal a' w') hR her (fun a' K w' hC hK hF' hL => hL w' hC hK hF') _ _ _ _ w.drew (hR.ext (Below.refl _ _)) (fun _ => trivial) hF hG ⟨fun _ _ g hg => (by cases hg), fun _ _ _ _ _ g hg => (by cases hg)⟩ inv0 (fun _ => Below.refl _ _) H
  rwa [hlen] at F
/-! ### The steps of the walk -/
section
variable {P : Program} {ops : Array Oper} {md : Region.Mode} {R : World → World → Prop} {w0 : World} {sp lt : Nat → Option Sp} {er : Nat → Bool} {L : Act → Kr → Prop} {i : Nat} {o : Oper} {rest : List Nat} {a : Act} {K : Kr}
theorem wpR_oneX (ho : ops[i]? = some o) (v : Value) (hw : Region.wanted o (yielded ops a.tmps) = true) (hl : lt i = none) (hsp : sp i = none) (hv : oneIn P (Rx R (er i)) w0 o a v) (h : wpR P md ops R w0 sp lt er L rest (a.put o.dst v) (K.upd i v fun _ => True)) (hw0 : Rx R (er i) w0 w0) : wpR P md ops R w0 sp lt er L (i :: rest) a K := by
  unfold wpR rOp
  simp only [ho]
  refine ⟨by unfold Okr; simp only [hw, if_true, hl, hsp]; exact ⟨v, hv⟩, fun u kn hr _ => ?_⟩
  unfold Resr at hr
  simp only [hw, if_true, hl, hsp] at hr
  obtain ⟨hu, rfl⟩ := hr
  have e := (hu w0 hw0).symm.trans (hv w0 hw0)
  injection e with e
  injection e with e
  rw [e]
  unfold Kr.step
  rw [hl]
  exact h
theorem wpR_one (ho : ops[i]? = some o) (v : Value) (hw : Region.wanted o (yielded ops a.tmps) = true) (hl : lt i = none) (hsp : sp i = none) (he : er i = false) (hv : oneIn P R w0 o a v) (h : wpR P md ops R w0 sp lt er L rest (a.put o.dst v) (K.upd i v fun _ => True)) (hw0 : R w0 w0) : wpR P md ops R w0 sp lt er L (i :: rest) a K :=
  wpR_oneX ho v hw hl hsp (by rw [he]; exact hv) h (by rw [he]; exact hw0)
/-- An operation that reads what later ones write. -/
theorem wpR_early (ho : ops[i]? = some o) (v : Value) (hw : Region.wanted o (yielded ops a.tmps) = true) (hl : lt i = none) (hsp : sp i = none) (he : er i = true) (hv : oneIn P Ext w0 o a v) (h : wpR P md ops R w0 sp lt er L rest (a.put o.dst v) (K.upd i v fun _ => True)) : wpR P md ops R w0 sp lt er L (i :: rest) a K :=
  wpR_oneX ho v hw hl hsp (by rw [he]; exact hv) h (by rw [he]; exact Below.refl _ _)
theorem wpR_alloc (ho : ops[i]? = some o) (S : Sp) (hw : Region.wanted o (yielded ops a.tmps) = true) (hl : lt i = none) (hsp : sp i = some S) (hst : ∀ V v, Lasts R (S V v)) (hV : ∀ V V', (∀ j, upon md ops ops.size i j = true → V j = V' j) → S V = S V')
    (hv : ∀ w, R w0 w → (∀ j, upon md ops ops.size i j = true → K.K j w) → opAt P o a w fun v w' => Ext w w' ∧ S K.V v w' ∧ NewlyAt ops lt i w v w')
    (h : ∀ v, (∃ w, R w0 w ∧ (∀ j, K.K j w) ∧ S K.V v w) → wpR P md ops R w0 sp lt er L rest (a.put o.dst v) (K.upd i v (S K.V v))) : wpR P md ops R w0 sp lt er L (i :: rest) a K := by
  unfold wpR rOp
  simp only [ho]
  refine ⟨by unfold Okr; simp only [hw, if_true, hl, hsp]; exact ⟨hst, hV, hv⟩, fun u kn hr hG => ?_⟩
  unfold Resr at hr
  simp only [hw, if_true, hl, hsp] at hr
  subst hr
  obtain ⟨w, hC, hK⟩ := hG.ex
  unfold Kr.step at hK ⊢
  simp only [hl] at hK ⊢
  exact h u ⟨w, hC, (Kr.of_upd hK).1, (Kr.of_upd hK).2⟩
theorem wpR_new (ho : ops[i]? = some o) (S : Sp) (hw : Region.wanted o (yielded ops a.tmps) = true) (hl : lt i = none) (hsp : sp i = some S) (hst : ∀ V v, Lasts R (S V v)) (hV : ∀ V V', (∀ j, upon md ops ops.size i j = true → V j = V' j) → S V = S V')
    (hv : ∀ w, R w0 w → (∀ j, upon md ops ops.size i j = true → K.K j w) → opAt P o a w fun v w' => Ext w w' ∧ S K.V v w')
    (h : ∀ v, (∃ w, R w0 w ∧ (∀ j, K.K j w) ∧ S K.V v w) → wpR P md ops R w0 sp lt er L rest (a.put o.dst v) (K.upd i v (S K.V v))) (hna : (match o.op with | .alloc _ => true | _ => false) = false := by rfl) : wpR P md ops R w0 sp lt er L (i :: rest) a K :=
  wpR_alloc ho S hw hl hsp hst hV (fun w h1 h2 => opAt_mono (fun v w' ⟨x, y⟩ => ⟨x, y, fun hal => by
    simp only [al, ho, Bool.and_eq_true] at hal
    rw [hna] at hal
    cases hal.2⟩) (hv w h1 h2)) h
theorem wpR_lateP (ho : ops[i]? = some o) (S : Sp) (hw : Region.wanted o (yielded ops a.tmps) = true) (hl : lt i = some S) (hst : ∀ V v, Lasts Ext (S V v)) (hV : ∀ V V', (∀ j, upon md ops ops.size i j = true → V j = V' j) → S V = S V')
    (hv : ∀ w, R w0 w → (∀ j, upon md ops ops.size i j = true → K.K j w) → K.F w → PairOn md ops lt i K.V → opAt P o a w fun v w' => R w w' ∧ S K.V v w')
    (h : ∀ v, (∃ w, R w0 w ∧ S K.V v w) → wpR P md ops R w0 sp lt er L rest (a.put o.dst v) (K.late i v (S K.V v))) : wpR P md ops R w0 sp lt er L (i :: rest) a K := by
  unfold wpR rOp
  simp only [ho]
  refine ⟨by unfold Okr; simp only [hw, if_true, hl]; exact ⟨hst, hV, hv⟩, fun u kn hr hG => ?_⟩
  unfold Resr at hr
  simp only [hw, if_true, hl] at hr
  obtain ⟨rfl, hx⟩ := hr
  unfold Kr.step
  simp only [hl]
  exact h u hx
theorem wpR_late (ho : ops[i]? = some o) (S : Sp) (hw : Region.wanted o (yielded ops a.tmps) = true) (hl : lt i = some S) (hst : ∀ V v, Lasts Ext (S V v)) (hV : ∀ V V', (∀ j, upon md ops ops.size i j = true → V j = V' j) → S V = S V')
    (hv : ∀ w, R w0 w → (∀ j, upon md ops ops.size i j = true → K.K j w) → K.F w → opAt P o a w fun v w' => R w w' ∧ S K.V v w')
    (h : ∀ v, (∃ w, R w0 w ∧ S K.V v w) → wpR P md ops R w0 sp lt er L rest (a.put o.dst v) (K.late i v (S K.V v))) : wpR P md ops R w0 sp lt er L (i :: rest) a K :=
  wpR_lateP ho S hw hl hst hV (fun w h1 h2 h3 _ => hv w h1 h2 h3) h
/-- An operation that its guard passes over. -/
theorem wpR_pass (ho : ops[i]? = some o) (hw : Region.wanted o (yielded ops a.tmps) = false) (hl : lt i = none) (h : wpR P md ops R w0 sp lt er L rest (a.put o.dst undef) (K.upd i undef fun _ => True)) : wpR P md ops R w0 sp lt er L (i :: rest) a K := by
  unfold wpR rOp
  simp only [ho]
  refine ⟨by unfold Okr; simp [hw], fun u kn hr _ => ?_⟩
  unfold Resr at hr
  simp only [hw, hl] at hr
  obtain ⟨rfl, rfl⟩ := hr
  unfold Kr.step
  rw [hl]
  exact h
theorem wpR_passL (ho : ops[i]? = some o) (hw : Region.wanted o (yielded ops a.tmps) = false) {S : Sp} (hl : lt i = some S) (h : wpR P md ops R w0 sp lt er L rest (a.put o.dst undef) (K.late i undef K.F)) : wpR P md ops R w0 sp lt er L (i :: rest) a K := by
  unfold wpR rOp
  simp only [ho]
  refine ⟨by unfold Okr; simp [hw], fun u kn hr _ => ?_⟩
  unfold Resr at hr
  simp only [hw, hl] at hr
  obtain ⟨rfl, rfl⟩ := hr
  unfold Kr.step
  simp only [hl]
  exact h
theorem wpR_nil (h : L a K) : wpR P md ops R w0 sp lt er L [] a K := h
end
end Go.Proofs.Ytijlaknfagpglaa
