/- Layer 5, at uint16: what a call of the law's script needs. No condition but the sizes. -/
import Derived.Test.YtffapgemacbdjaaRkd
import Derived.OpenShut
namespace Go.Proofs.Ytffapgemacbdjaa
open Go.RowKit Go.Proofs Go.Shelf
set_option linter.unusedVariables false
attribute [local go_sem] Oper.semAt_some
/-- A call of the script. -/
structure Opn where
  kind : Int
  who : Int
  to : Int
  lo : Int
  hi : Int
  k : Int
  A : Option Addr
  c : Nat
  L : List Rn
def Opn.cells (o : Opn) : Array Value := #[.int .i64 o.kind, .int .i64 o.who, .int .i64 o.to, .int .i64 o.lo, .int .i64 o.hi, .int .i64 o.k, .slice o.A o.L.length o.c]
/-- Its runs can be read; they lie below B. -/
structure Opn.In (B : Nat) (w : World) (o : Opn) : Prop where
  rd : 0 < o.L.length → ∃ b off, o.A = some ⟨b, off, none⟩ ∧ b < B ∧ ∀ i r, o.L[i]? = some r → w.cell? ⟨b, off + i * 2, none⟩ = some (.int .i64 r.lo) ∧ w.cell? ⟨b, off + i * 2 + 1, none⟩ = some (.int .i64 r.hi)
  le : o.L.length ≤ o.c
  cap : o.c ≤ 9223372036854775807
theorem Opn.In.below {B : Nat} {w w' : World} {o : Opn} (h : o.In B w) (he : Below B w w') : o.In B w' :=
  ⟨fun hn => by
    obtain ⟨b, off, hA, hb, hc⟩ := h.rd hn
    exact ⟨b, off, hA, hb, fun i r hr => ⟨(he.cell (p := ⟨b, off + i * 2, none⟩) hb).trans (hc i r hr).1, (he.cell (p := ⟨b, off + i * 2 + 1, none⟩) hb).trans (hc i r hr).2⟩⟩, h.le, h.cap⟩
theorem below_exc {B : Nat} {w w' : World} (h : Exc (fun q _ => B ≤ q) w w') (hB : B ≤ w.heap.size) : Below B w w' :=
  ⟨h.os, h.tape, h.output, h.size, fun k hk => by
    have hk' : k < w.heap.size := by omega
    obtain ⟨o, ho⟩ : ∃ o, w.heap[k]? = some o := ⟨_, Array.getElem?_eq_getElem hk'⟩
    rw [ho]
    exact h.block k o ho (by omega)⟩
/-- Blocks from B on may change, but no block of a call of the script. -/
abbrev DB (B : Nat) : Nat → Obj → Prop := fun q ob => B ≤ q ∧ ∀ cs fr, ob ≠ .cells cs 89 fr
theorem exc_db {B : Nat} {w w' : World} (h : Exc (DB B) w w') : Exc (fun q _ => B ≤ q) w w' := ⟨h.os, h.tape, h.output, h.size, fun k o hk hn => h.block k o hk (fun e => hn e.1)⟩
theorem one_op {w w' : World} {B b : Nat} {y : Array Value} {tb : TypeId} {f : Nat × Nat} (h : Exc (fun q _ => q = b) w w') (hB : B ≤ b) (hb : w.heap[b]? = some (.cells y tb f)) (hne : tb ≠ 89) : Exc (DB B) w w' :=
  ⟨h.os, h.tape, h.output, h.size, fun k o hk hn => h.block k o hk (fun e => hn ⟨by omega, fun cs fr e2 => by
    subst e e2
    rw [hb] at hk
    injection hk with hk
    injection hk with _ h2
    exact hne h2⟩)⟩
theorem exc_kept_op {w w' : World} {row : Option Nat} {B : Nat} {e : TypeId} (hg : w.grownBy w' row) (hr : ∀ q, row = some q → B ≤ q ∧ ∃ cs, w.heap[q]? = some (.cells cs e (0, 0))) (hne : e ≠ 89) : Exc (DB B) w w' :=
  ⟨hg.os, hg.tape, hg.output, hg.size, fun k o hk hn => hg.block k (Array.getElem?_eq_some_iff.1 hk).1 (fun he => hn (by
    obtain ⟨h1, cs, h2⟩ := hr k he.symm
    refine ⟨h1, fun cs' fr e2 => ?_⟩
    subst e2
    rw [h2] at hk
    injection hk with hk
    injection hk with _ h3
    exact hne h3)) |>.trans hk⟩
theorem exc_fresh {D : Nat → Obj → Prop} {w v v' : World} {b : Nat} (h : Exc D w v) (hx : Exc (fun q _ => q = b) v v') (hb : w.heap.size ≤ b) : Exc D w v' :=
  ⟨hx.os.trans h.os, hx.tape.trans h.tape, hx.output.trans h.output, Nat.le_trans h.size hx.size, fun k o hk hn => hx.block k o (h.block k o hk hn) (fun e => by
    have := (Array.getElem?_eq_some_iff.1 hk).1
    omega)⟩
theorem db_of {w : World} {B k : Nat} {o : Obj} {y : Array Value} {tb : TypeId} {f : Nat × Nat} (hk : w.heap[k]? = some o) (hB : B ≤ k) (hb : w.heap[k]? = some (.cells y tb f)) (hne : tb ≠ 89) : DB B k o :=
  ⟨hB, fun cs fr e2 => by
    subst e2
    rw [hb] at hk
    injection hk with hk
    injection hk with _ h2
    exact hne h2⟩
theorem wk_p (s : Wk) {i : Nat} (hi : i < 3) : s.cells[i]? = some (.pointer (some ⟨s.p.P i, 0, none⟩)) := by
  match i, hi with
  | 0, _ => rfl
  | 1, _ => rfl
  | 2, _ => rfl
theorem wk_r (s : Wk) {i : Nat} (hi : i < 3) : s.cells[3 + i]? = some (.pointer (some ⟨s.r.P i, 0, none⟩)) := by
  match i, hi with
  | 0, _ => rfl
  | 1, _ => rfl
  | 2, _ => rfl
theorem kbdd (z : Int) : 0 ≤ IntKind.wrap .u16 z ∧ IntKind.wrap .u16 z ≤ 65535 := by
  have h := wf_wrap .u16 z
  simp [Lit.wf] at h
  have e1 : IntKind.min .u16 = 0 := by decide
  have e2 : IntKind.max .u16 = 65535 := by decide
  omega
theorem Wk.Ok.put {s : Wk} (h : s.Ok) (i p q : Nat) (A A' : Option Addr) (c c' : Nat) {L M : List Rn} (e : L = M) : ({ s with p := s.p.put i p A c L, r := s.r.put i q A' c' M } : Wk).Ok := by
  subst e
  refine ⟨fun j hj => ?_, h.tl⟩
  simp only [Tri.put]
  by_cases e : j = i
  · rw [if_pos e, if_pos e]
  · rw [if_neg e, if_neg e]; exact h.eq j hj
theorem bdr_ofd {r : Rn} (h : Bdd r) : Bdr r := by
  obtain ⟨⟨a, b⟩, c, d⟩ := h
  exact ⟨⟨by omega, by omega⟩, by omega, by omega⟩
theorem cnt_ofd {L : List Rn} (hw : WfR L) (hb : ∀ r ∈ L, Bdd r) : L.foldl withZ 0 = cnt L := len_cnt hw (inb_of_bd (fun r hr => bdr_ofd (hb r hr))) (by decide)
theorem low_bdd {L : List Rn} (hb : ∀ r ∈ L, Bdd r) : IntKind.i64.wrap (lowL L).1 = (lowL L).1 := by
  rw [IntKind.wrap_i64]
  cases L with
  | nil => simp only [lowL]; omega
  | cons x L =>
    have h := (hb x List.mem_cons_self).1
    simp only [lowL]
    omega
theorem watd : ∀ (ws : List Wlk) (k : Nat) (x : Wlk), ws[k]? = some x → (ws.flatMap Wlk.valsd)[k * 2]? = some (walkVd x.b) ∧ (ws.flatMap Wlk.valsd)[k * 2 + 1]? = some (.pointer (some ⟨x.q, 0, none⟩))
  | [], k, r, h => by simp at h
  | y :: l, 0, r, h => by
    simp only [List.getElem?_cons_zero, Option.some.injEq] at h
    subst h
    exact ⟨rfl, rfl⟩
  | y :: l, k + 1, r, h => by
    have := watd l k r (by simpa using h)
    have hl : (Wlk.valsd y).length = 2 := rfl
    rw [List.flatMap_cons]
    rw [show (k + 1) * 2 = (Wlk.valsd y).length + k * 2 by omega, show (Wlk.valsd y).length + k * 2 + 1 = (Wlk.valsd y).length + (k * 2 + 1) by omega]
    rw [List.getElem?_append_right (by omega), List.getElem?_append_right (by omega)]
    simpa using this
theorem Walksd.at {B n c k : Nat} {A : Option Addr} {w : World} {ws : List Wlk} {x : Wlk} (h : Walksd B n w A c ws) (hx : ws[k]? = some x) : ∃ g, A = some ⟨g, 0, none⟩ ∧ k < c ∧ ∀ W, Ext w W → W.cell? ⟨g, k * 2, none⟩ = some (walkVd x.b) ∧ W.cell? ⟨g, k * 2 + 1, none⟩ = some (.pointer (some ⟨x.q, 0, none⟩)) := by
  have hk := (List.getElem?_eq_some_iff.1 hx).1
  obtain ⟨a1, a2⟩ := watd ws k x hx
  rcases h.row.2 with ⟨hv, h0⟩ | ⟨g, cap, cur, hv, hb, hg, hle, _⟩
  · omega
  · injection hv with h1 h2 h3
    subst h1 h3
    refine ⟨g, rfl, by omega, fun W hW => ?_⟩
    have ho := own_ext h.row hW
    refine ⟨?_, ?_⟩
    · rw [World.ownsRow.cellAt ho _ (by omega), a1]
    · rw [World.ownsRow.cellAt ho _ (by omega), a2]
/-- A fresh box for a kept walk. -/
def BoxKd (B : Nat) (cs : Array Value) (z : Value) (V : World) : Prop := ∃ g, z = .pointer (some ⟨g, 0, none⟩) ∧ B ≤ g ∧ V.heap[g]? = some (.cells cs 218 (0, 0))
theorem BoxKd.lasts (B : Nat) (cs : Array Value) (z : Value) : Lasts Ext (BoxKd B cs z) := fun w' w2 ⟨g, h1, h2, h3⟩ he => ⟨g, h1, h2, he.blk h3⟩
theorem infoSRd : (Try.prog.info? 203).map (fun i => (i.zero, i.size, i.bytes)) = some (some (.slice none 0 0), 1, 24) := by kernel_rfl
theorem infoSrd : (Try.prog.info? 22).map (fun i => (i.zero, i.size, i.bytes)) = some (some (.slice none 0 0), 1, 24) := by kernel_rfl
theorem one_sl (A : Option Addr) (n c : Nat) : ∀ u ∈ [Value.slice A n c], u.oneCell' = true := by
  intro u hu
  rcases List.mem_cons.1 hu with rfl | hu
  · rfl
  · cases hu
/-- Behind a store into the work's own block. -/
theorem WorkAtd.stored {B xb n j : Nat} {v : Value} {w : World} {s s' : Wk} (hd : w.heap[xb]? = some (.cells s.cells 120 (0, 0))) (hB : B ≤ xb) (hp : Prtd B n w s') (he : s.cells.setIfInBounds j v = s'.cells) : WorkAtd B xb n (w.setCell ⟨xb, j, none⟩ v) s' := by
  refine ⟨?_, hB, hp.other (setCell_excr w xb j v) hd (by decide) (by decide) (by decide) (by decide) (by decide) (by decide) (by decide)⟩
  have := heap_setCell_same w xb j _ _ v hd
  rw [he] at this
  exact this
/-- Neither the work's block nor the row's. -/
def OutX (xb : Nat) (A : Option Addr) (n c q : Nat) : Prop := ¬ (q = xb ∨ (Value.slice A n c).ownBlock = some q)
theorem own_out {w w' : World} {D : Nat → Obj → Prop} {B n k : Nat} {e : TypeId} {v : Value} {xs : List Value} (h : w.ownsRow B e n v k xs) (hx : Exc D w w') (hb : ∀ b o, v.ownBlock = some b → ¬ D b o) : w'.ownsRow B e n v k xs := by
  refine ⟨h.1, ?_⟩
  rcases h.2 with h0 | ⟨g, cap, cur, hv, hB, hg, r⟩
  · exact .inl h0
  · exact .inr ⟨g, cap, cur, hv, hB, hx.blk hg (hb g _ (by rw [hv]; rfl)), r⟩
/-- What Copy has made, while the row grows. -/
def CopyX (B xb : Nat) (A : Option Addr) (n c : Nat) (L : List Rn) (z : Value) (V : World) : Prop := ∃ q A' c', z = .pointer (some ⟨q, 0, none⟩) ∧ V.heap[q]? = some (.cells #[.slice A' L.length c'] 87 (0, 0)) ∧ OutX xb A n c q ∧ RowRr B V A' c' L ∧ ∀ b, (Value.slice A' L.length c').ownBlock = some b → OutX xb A n c b
def RowX (B xb : Nat) (A : Option Addr) (n c : Nat) (L : List Rn) (z : Value) (V : World) : Prop := ∃ A' c', z = .slice A' L.length c' ∧ RowRr B V A' c' L ∧ ∀ b, (Value.slice A' L.length c').ownBlock = some b → OutX xb A n c b
def LitX (xb : Nat) (A : Option Addr) (n c : Nat) (v z : Value) (V : World) : Prop := ∃ g, z = .slice (some ⟨g, 0, none⟩) 1 1 ∧ V.heap[g]? = some (.cells #[v] 22 (0, 0)) ∧ OutX xb A n c g
theorem CopyX.lasts (B xb : Nat) (A : Option Addr) (n c : Nat) (L : List Rn) (z : Value) : Lasts (Exc fun q _ => q = xb ∨ (Value.slice A n c).ownBlock = some q) (CopyX B xb A n c L z) := fun w' w2 ⟨q, A', c', h1, h2, h3, h4, h5⟩ he => ⟨q, A', c', h1, he.blk h2 h3, h3, own_out h4 he (fun b _ hb => h5 b hb), h5⟩
theorem RowX.lasts (B xb : Nat) (A : Option Addr) (n c : Nat) (L : List Rn) (z : Value) : Lasts (Exc fun q _ => q = xb ∨ (Value.slice A n c).ownBlock = some q) (RowX B xb A n c L z) := fun w' w2 ⟨A', c', h1, h4, h5⟩ he => ⟨A', c', h1, own_out h4 he (fun b _ hb => h5 b hb), h5⟩
theorem LitX.lasts (xb : Nat) (A : Option Addr) (n c : Nat) (v z : Value) : Lasts (Exc fun q _ => q = xb ∨ (Value.slice A n c).ownBlock = some q) (LitX xb A n c v z) := fun w' w2 ⟨g, h1, h2, h3⟩ he => ⟨g, h1, he.blk h2 h3, h3⟩
def AppXd (B xb n : Nat) (s : Wk) (L : List Rn) (v z : Value) (V : World) : Prop := ∃ A3 c3 t, v = Tld.v t ∧ t.L = L ∧ z = .slice A3 (s.xs.length + 1) c3 ∧ Prtd B n V { s with Ax := A3, cx := c3, xs := s.xs ++ [t] } ∧ V.heap[xb]? = some (.cells s.cells 120 (0, 0))
def FinXd (B xb n : Nat) (s : Wk) (L : List Rn) (V : World) : Prop := ∃ A3 c3 t, t.L = L ∧ WorkAtd B xb n V { s with Ax := A3, cx := c3, xs := s.xs ++ [t] }
theorem AppXd.lasts (B xb n : Nat) (s : Wk) (L : List Rn) (v z : Value) : Lasts Ext (AppXd B xb n s L v z) := fun w' w2 ⟨A3, c3, t, h1, h2, h3, h4, h5⟩ he => ⟨A3, c3, t, h1, h2, h3, h4.ext he, he.blk h5⟩
theorem FinXd.lasts (B xb n : Nat) (s : Wk) (L : List Rn) : Lasts Ext (FinXd B xb n s L) := fun w' w2 ⟨A3, c3, t, h1, h2⟩ he => ⟨A3, c3, t, h1, h2.ext he⟩
theorem infoKd : (Try.prog.info? 218).map (fun i => (i.zero, i.size, i.bytes)) = some (some (.agg #[.nilFunc, .pointer none]), 2, 16) := by kernel_rfl
theorem one_kpd (x : Wlk) : ∀ u ∈ Wlk.valsd x, u.oneCell' = true := by
  intro u hu
  simp only [Wlk.valsd, List.mem_cons, List.not_mem_nil, or_false] at hu
  rcases hu with rfl | rfl <;> rfl
/-- The elder blocks that may turn. -/
def DK (N0 xb : Nat) (A : Option Addr) (n c : Nat) : Nat → Obj → Prop := fun q _ => q < N0 ∧ (q = xb ∨ (Value.slice A n c).ownBlock = some q)
def HasKd (B N0 : Nat) (L : List Rn) (z : Value) (V : World) : Prop := ∃ b A' c', z = walkVd b ∧ N0 ≤ b ∧ WalkAtd B b A' c' V L ∧ ∀ q, (Value.slice A' L.length c').ownBlock = some q → N0 ≤ q
def CopyK (B N0 : Nat) (L : List Rn) (z : Value) (V : World) : Prop := ∃ q A' c', z = .pointer (some ⟨q, 0, none⟩) ∧ N0 ≤ q ∧ SetAtr B q A' c' V L ∧ ∀ b, (Value.slice A' L.length c').ownBlock = some b → N0 ≤ b
def LitKd (N0 : Nat) (v u z : Value) (V : World) : Prop := ∃ g, z = .slice (some ⟨g, 0, none⟩) 1 1 ∧ V.heap[g]? = some (.cells #[v, u] 218 (0, 0)) ∧ N0 ≤ g
theorem HasKd.lasts (B N0 xb : Nat) (A : Option Addr) (n c : Nat) (L : List Rn) (z : Value) : Lasts (Exc (DK N0 xb A n c)) (HasKd B N0 L z) := fun w' w2 ⟨b, A', c', h1, h2, h3, h4⟩ he => ⟨b, A', c', h1, h2, ⟨he.blk h3.hd (fun e => by have := e.1; omega), own_out h3.row he (fun q _ hq e => by have := h4 q hq; have := e.1; omega), h3.wf, h3.bd⟩, h4⟩
theorem CopyK.lasts (B N0 xb : Nat) (A : Option Addr) (n c : Nat) (L : List Rn) (z : Value) : Lasts (Exc (DK N0 xb A n c)) (CopyK B N0 L z) := fun w' w2 ⟨b, A', c', h1, h2, h3, h4⟩ he => ⟨b, A', c', h1, h2, ⟨he.blk h3.hd (fun e => by have := e.1; omega), own_out h3.row he (fun q _ hq e => by have := h4 q hq; have := e.1; omega), h3.wf, h3.bd⟩, h4⟩
theorem LitKd.lasts (N0 xb : Nat) (A : Option Addr) (n c : Nat) (v u z : Value) : Lasts (Exc (DK N0 xb A n c)) (LitKd N0 v u z) := fun w' w2 ⟨g, h1, h2, h3⟩ he => ⟨g, h1, he.blk h2 (fun e => by have := e.1; omega), h3⟩
def AppKd (B xb n : Nat) (s : Wk) (v u z : Value) (V : World) : Prop := ∃ A3 c3 t, v = walkVd t.b ∧ u = .pointer (some ⟨t.q, 0, none⟩) ∧ z = .slice A3 (s.ws.length + 1) c3 ∧ Prtd B n V { s with Aw := A3, cw := c3, ws := s.ws ++ [t] } ∧ V.heap[xb]? = some (.cells s.cells 120 (0, 0))
def FinKd (B xb n : Nat) (s : Wk) (V : World) : Prop := ∃ A3 c3 t, WorkAtd B xb n V { s with Aw := A3, cw := c3, ws := s.ws ++ [t] }
theorem AppKd.lasts (B xb n : Nat) (s : Wk) (v u z : Value) : Lasts Ext (AppKd B xb n s v u z) := fun w' w2 ⟨A3, c3, t, h1, h2, h3, h4, h5⟩ he => ⟨A3, c3, t, h1, h2, h3, h4.ext he, he.blk h5⟩
theorem FinKd.lasts (B xb n : Nat) (s : Wk) : Lasts Ext (FinKd B xb n s) := fun w' w2 ⟨A3, c3, t, h1⟩ he => ⟨A3, c3, t, h1.ext he⟩
/-- A walk over these runs. -/
def HasWalkd (L : List Rn) (z : Value) (V : World) : Prop := ∃ B' b A c, z = walkVd b ∧ WalkAtd B' b A c V L
theorem HasWalkd.lasts (L : List Rn) (z : Value) : Lasts Ext (HasWalkd L z) := fun w' w2 ⟨B', b, A, c, h1, h2⟩ he => ⟨B', b, A, c, h1, h2.ext he⟩
end Go.Proofs.Ytffapgemacbdjaa
