/- Words for what is joined and lent out of copies. No condition. -/
import Derived.Test.YtjjbckdiojleeaaTwor
import Derived.Test.YtjjbckdiojleeaaPgargs
import Derived.Test.YtjjbckdiojleeaaNsplit
namespace Go.Proofs.Ytjjbckdiojleeaa
set_option linter.unusedVariables false
open Go.RowKit Go.Proofs
/-- A tuple's part. -/
def comp (t : Value) (i : Nat) : Value := match t with | .tuple vs => vs.getD i undef | _ => undef
def LendIn (C : Nat) (a b : Pg) (s : List UInt8) (z : Bool) (v : Value) (w : World) : Prop := ∃ v1 v2 A c, v = .tuple #[v1, v2, .slice A s.length c, .bool z] ∧ PgO C w v1 a ∧ PgO C w v2 b ∧ Own 5 C w A c s
theorem LendIn.lastsK {C : Nat} (a b : Pg) (s : List UInt8) (z : Bool) (v : Value) : Lasts (Exk (PgBlk C)) (LendIn C a b s z v) := fun w w' ⟨v1, v2, A, c, h1, h2, h3, h4⟩ hx =>
  ⟨v1, v2, A, c, h1, PgO.lastsK a v1 w w' h2 hx, PgO.lastsK b v2 w w' h3 hx, ownsRow_exc h4 hx.x (fun k cs _ => PgBlk.not8)⟩
def JoinIn (C : Nat) (a : Pg) (z : Bool) (v : Value) (w : World) : Prop := ∃ v1, v = .tuple #[v1, .bool z] ∧ PgO C w v1 a
theorem JoinIn.lastsK {C : Nat} (a : Pg) (z : Bool) (v : Value) : Lasts (Exk (PgBlk C)) (JoinIn C a z v) := fun w w' ⟨v1, h1, h2⟩ hx => ⟨v1, h1, PgO.lastsK a v1 w w' h2 hx⟩
theorem SOwn.lastsK {C : Nat} (bs : List UInt8) (v : Value) : Lasts (Exk (PgBlk C)) (SOwn 5 C bs v) := fun w w' h hx => h.exc hx.x (fun k cs _ => PgBlk.not8)
theorem lend_bound {p q : Pg} {toR : Bool} (h1 : p.items.length ≤ 2199023255488) (h2 : q.items.length ≤ 2199023255488) (h : lendOk p q toR = true) : p.items.length + q.items.length ≤ 2199023255552 := by
  unfold lendOk at h
  simp only [Bool.and_eq_true] at h
  cases toR
  · have := of_decide_eq_true h.2; omega
  · have := of_decide_eq_true h.2; omega
end Go.Proofs.Ytjjbckdiojleeaa
