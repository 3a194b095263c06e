/- Words for the laws over two neighbours. No condition. -/
import Derived.Test.YtjjbckdiojleeaaNfinds
import Derived.Test.YtjjbckdiojleeaaNsmall
import Derived.Test.YtjjbckdiojleeaaNpart
namespace Go.Proofs.Ytjjbckdiojleeaa
set_option linter.unusedVariables false
open Go.RowKit Go.Proofs
theorem SpPg.exc {D : Nat → Obj → Prop} {w w' : World} {v : Value} {p : Pg} (h : SpPg w v p) (hx : Exc D w w') (hd : ∀ k cs, ¬ D k (.cells cs 5 (0, 0))) (hd2 : ∀ k cs, ¬ D k (.cells cs 51 (0, 0))) : SpPg w' v p := by
  obtain ⟨g, ps, gd, h1, h2, h3, h4⟩ := h.ex
  exact ⟨g, ps, gd, h1, hx.blk h2 (hd2 _ _), h3.exc hx (fun k cs _ => hd k cs), hx.blk h4 (hd _ _)⟩
theorem SpPg.lastsK {C : Nat} (p : Pg) (v : Value) : Lasts (Exk (PgBlk C)) fun w => SpPg w v p := fun w w' h hx => h.exc hx.x (fun k cs => PgBlk.not8) (fun k cs => PgBlk.notI)
theorem SpBy.lastsK {C B : Nat} (bs : List UInt8) (v : Value) : Lasts (Exk (PgBlk C)) (SpBy B bs v) := fun w w' h hx => SpBy.exc (fun k cs _ => PgBlk.not8) bs v _ _ h hx.x
/-- What is known behind the region that makes both pages and the separator with room behind them. -/
structure TwoS (w0 w : World) (p q : Pg) (sep : List UInt8) (tc : Obj) (xg xd yg yd sg g1 g2 : Nat) : Prop where
  e : Ext w0 w
  b : w.heap[w0.heap.size]? = some tc
  x : SpPg w (.agg #[.int .i64 p.kind, .int .i64 p.level, .slice (some ⟨xg, 0, none⟩) p.items.length (p.items.length + 2), .slice (some ⟨xd, 0, none⟩) p.data.length (p.data.length + 64), .int .i64 p.next]) p
  y : SpPg w (.agg #[.int .i64 q.kind, .int .i64 q.level, .slice (some ⟨yg, 0, none⟩) q.items.length (q.items.length + 2), .slice (some ⟨yd, 0, none⟩) q.data.length (q.data.length + 64), .int .i64 q.next]) q
  s : Spared w sg sep
  b1 : w.heap[g1]? = some (.cells #[.int .i64 p.kind, .int .i64 p.level, .slice (some ⟨xg, 0, none⟩) p.items.length (p.items.length + 2), .slice (some ⟨xd, 0, none⟩) p.data.length (p.data.length + 64), .int .i64 p.next] 26)
  b2 : w.heap[g2]? = some (.cells #[.int .i64 q.kind, .int .i64 q.level, .slice (some ⟨yg, 0, none⟩) q.items.length (q.items.length + 2), .slice (some ⟨yd, 0, none⟩) q.data.length (q.data.length + 64), .int .i64 q.next] 26)
end Go.Proofs.Ytjjbckdiojleeaa
