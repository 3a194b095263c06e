/- Layer 10: what PoolAnswers keeps (marks, lists, boxes of answers), its appends, and the region of its calls. No condition but the sizes. -/
import Derived.Test.YtaalhicdeibodaaPrap
namespace Go.Proofs.Ytaalhicdeibodaa
open Go.RowKit Go.Proofs Go.Shelf
set_option linter.unusedVariables false
def AnsBlk (o : Obj) : Prop := ∃ (cs : Array Value) (fr : Nat × Nat), o = .cells cs 54 fr
theorem blk_same {w : World} {q : Nat} {cs cs' : Array Value} {t t' : TypeId} {fr fr' : Nat × Nat} (h : w.heap[q]? = some (.cells cs t fr)) (h' : w.heap[q]? = some (.cells cs' t' fr')) : t = t' := by
  rw [h] at h'
  injection h' with h'
  injection h' with _ h2
theorem PoolS.noAns {B N : Nat} {w : World} {m : Pm} {s : Pl} (h : PoolS B N w m s) {q : Nat} {cs : Array Value} {fr : Nat × Nat} (hq : m.foot q) (hb : w.heap[q]? = some (.cells cs 54 fr)) : False := by
  obtain ⟨L, h, _⟩ := h.mem
  rcases hq with rfl | hq | hq | rfl | hq | hq | ⟨b, hbm, hq⟩
  · exact absurd (blk_same h.hd hb) (by decide)
  · exact own_not h.cn hb (by decide) (by rw [ownBlock_eq]; exact hq)
  · exact own_not h.la hb (by decide) (by rw [ownBlock_eq]; exact hq)
  · exact absurd (blk_same h.fr.hd hb) (by decide)
  · exact own_not h.fr.row hb (by decide) (by rw [ownBlock_eq]; exact hq)
  · exact own_not h.ac hb (by decide) (by rw [ownBlock_eq]; exact hq)
  · obtain ⟨i, hi, rfl⟩ := List.getElem_of_mem hbm
    have hia := hi
    rw [h.bl] at hia
    have k := h.cl i _ _ (List.getElem?_eq_getElem hia) (List.getElem?_eq_getElem hi)
    rcases hq with rfl | rfl | rfl
    · exact absurd (blk_same k.c1 hb) (by decide)
    · exact absurd (blk_same k.c2 hb) (by decide)
    · exact absurd (blk_same k.c3 hb) (by decide)
theorem RefS.noAns {B N : Nat} {w : World} {m : Rm} {s : Pl} (h : RefS B N w m s) {q : Nat} {cs : Array Value} {fr : Nat × Nat} (hq : m.foot q) (hb : w.heap[q]? = some (.cells cs 54 fr)) : False := by
  have h := h.mem
  rcases hq with rfl | hq | hq | hq
  · exact absurd (blk_same h.hd hb) (by decide)
  · exact own_not h.cn hb (by decide) (by rw [ownBlock_eq]; exact hq)
  · exact own_not h.la hb (by decide) (by rw [ownBlock_eq]; exact hq)
  · exact own_not h.ac hb (by decide) (by rw [ownBlock_eq]; exact hq)
theorem PQ.box {w : World} {B N : Nat} {V V' : World} {m0 : Pm} {r0 : Rm} {m : Pm} {r : Rm} {s1 s2 : Pl} (h : PQ w B N V m0 r0 m r s1 s2) {g : Nat} {cs : Array Value} {fr : Nat × Nat} (hb : V.heap[g]? = some (.cells cs 54 fr)) (hg : V.grownBy V' (some g)) (hB : B ≤ g) : PQ w B N V' m0 r0 m r s1 s2 := by
  have hx : Exc (fun q _ => q = g) V V' := Exc.of_only hg (fun _ _ => rfl)
  have hlo := h.lo
  refine ⟨h.p.exc hx (fun q o hq e => ?_), h.q.exc hx (fun q o hq e => ?_), h.ap, h.mp, h.rp, hx.to_ext h.ex (fun q o e => by omega), h.lo, Nat.le_trans h.hi hx.size⟩
  · subst e
    exact h.p.noAns hq hb
  · subst e
    exact h.q.noAns hq hb
/-- What a round of the law may turn: the pools, and the boxes of answers. -/
structure Exa (B N0 : Nat) (w w' : World) : Prop where
  x : Exc (fun q o => B ≤ q ∧ (q < N0 ∨ AnsBlk o)) w w'
  keep : ∀ (g : Nat) (cs : Array Value), N0 ≤ g → w.heap[g]? = some (.cells cs 54 (0, 0)) → ∃ cs' : Array Value, w'.heap[g]? = some (.cells cs' 54 (0, 0)) ∧ cs'.size = cs.size
section
variable {B N0 : Nat} {w w' : World}
theorem Exa.of_ext (h : Ext w w') : Exa B N0 w w' := ⟨Exc.of_ext h, fun g cs _ hg => ⟨cs, h.blk hg, rfl⟩⟩
theorem Exa.trans {w2 : World} (h : Exa B N0 w w') (k : Exa B N0 w' w2) : Exa B N0 w w2 := ⟨h.x.trans k.x, fun g cs hN hg => by
  obtain ⟨c1, h1, e1⟩ := h.keep g cs hN hg
  obtain ⟨c2, h2, e2⟩ := k.keep g c1 hN h1
  exact ⟨c2, h2, e2.trans e1⟩⟩
theorem rel_exa (B N0 : Nat) : Rel (Exa B N0) := ⟨Exa.of_ext, Exa.trans, fun h => h.x.size⟩
theorem Exa.of_foot {F : Nat → Prop} (hx : Exc (fun q _ => F q) w w') (hF : ∀ q, F q → B ≤ q ∧ q < N0) : Exa B N0 w w' :=
  ⟨⟨hx.os, hx.tape, hx.output, hx.size, fun q o ho hn => hx.block q o ho (fun e => hn ⟨(hF q e).1, .inl (hF q e).2⟩)⟩, fun g cs hN hg => ⟨cs, hx.blk hg (fun e => by have := (hF g e).2; omega), rfl⟩⟩
theorem Exa.of_box {g : Nat} {cs old : Array Value} (h : w.grownBy w' (some g)) (h0 : w.heap[g]? = some (.cells old 54 (0, 0))) (h1 : w'.heap[g]? = some (.cells cs 54 (0, 0))) (hs : cs.size = old.size) (hB : B ≤ g) : Exa B N0 w w' := by
  have k : Exk (fun q o => B ≤ q ∧ (q < N0 ∨ AnsBlk o)) w w' := Exk.of_only h h0 h1 hs ⟨hB, .inr ⟨_, _, rfl⟩⟩
  exact ⟨k.x, fun g' cs' _ hg => k.keep g' cs' _ hg⟩
end
/-- A box for an answer. -/
def AnCell (C : Nat) (v : Value) (w : World) : Prop := ∃ g, v = .pointer (some ⟨g, 0, none⟩) ∧ C ≤ g ∧ ∃ cs, w.heap[g]? = some (.cells cs 54 (0, 0)) ∧ cs.size = 5
theorem AnCell.lasts {B N0 : Nat} {C : Nat} (hC : N0 ≤ C) (v : Value) : Lasts (Exa B N0) (AnCell C v) := fun w w' ⟨g, h1, h2, cs, h3, h4⟩ hx => by
  obtain ⟨cs', h5, h6⟩ := hx.keep g cs (by omega) h3
  exact ⟨g, h1, h2, cs', h5, h6.trans h4⟩
/-- Lists of the law's own: heads, and what they hold. -/
structure Rows (Lo Up : Nat) (F : Nat → Prop) (MA : Option Addr) (w : World) (ls : List (List Int)) (hs : List Hd) : Prop where
  len : hs.length = ls.length
  row : ∀ (j : Nat) (h : Hd), hs[j]? = some h → ∃ l, ls[j]? = some l ∧ h.k = l.length ∧ RowI Lo w h.A h.c l ∧ ∀ q, blkOf h.A = some q → ¬ F q ∧ blkOf MA ≠ some q ∧ q < Up
/-- What the law keeps beside its pools. -/
structure Kp (Lo Up : Nat) (F : Nat → Prop) (w : World) (MA : Option Addr) (mc : Nat) (mk : List Int) (Ak : Option Addr) (ck : Nat) (hs : List Hd) (Aw : Option Addr) (cw : Nat) (ws : List Hd) (lk lw : List (List Int)) : Prop where
  mr : RowI Lo w MA mc mk
  mo : ∀ q, blkOf MA = some q → ¬ F q
  kr : w.ownsRow Lo 22 1 (.slice Ak hs.length ck) hs.length (hs.map Hd.v)
  ko : ∀ q, blkOf Ak = some q → ¬ F q
  wr : w.ownsRow Lo 22 1 (.slice Aw ws.length cw) ws.length (ws.map Hd.v)
  wo : ∀ q, blkOf Aw = some q → ¬ F q
  kw : ∀ q, blkOf Ak = some q → blkOf Aw ≠ some q
  hk : Rows Lo Up F MA w lk hs
  hw : Rows Lo Up F MA w lw ws
  ap : ApartH hs
section
variable {Lo Up : Nat} {F F' : Nat → Prop} {w w' : World} {MA : Option Addr} {mc : Nat} {mk : List Int} {Ak : Option Addr} {ck : Nat} {hs : List Hd} {Aw : Option Addr} {cw : Nat} {ws : List Hd} {ls lk lw : List (List Int)}
theorem own_blt {B : Nat} {e : TypeId} {n k : Nat} {A : Option Addr} {m c : Nat} {xs : List Value} (h : w.ownsRow B e n (.slice A m c) k xs) {q : Nat} (hq : blkOf A = some q) : B ≤ q ∧ q < w.heap.size := World.ownsRow.lt h q (by rw [ownBlock_eq]; exact hq)
/-- Where only what F holds, or boxes of answers, has turned. -/
theorem Rows.turn {D : Nat → Obj → Prop} (h : Rows Lo Up F MA w ls hs) (hx : Exc D w w') (hD : ∀ q cs fr, ¬ F q → ¬ D q (.cells cs 3 fr)) (hF : ∀ q, q < w.heap.size → F' q → F q) : Rows Lo Up F' MA w' ls hs := by
  refine ⟨h.len, fun j hd hj => ?_⟩
  obtain ⟨l, h1, h2, h3, h4⟩ := h.row j hd hj
  refine ⟨l, h1, h2, ?_, fun q hq => ⟨fun e => (h4 q hq).1 (hF q (own_blt h3 hq).2 e), (h4 q hq).2⟩⟩
  refine ⟨h3.1, ?_⟩
  rcases h3.2 with h0 | ⟨g, cap, cur, hv, hb, hg, r⟩
  · exact .inl h0
  · refine .inr ⟨g, cap, cur, hv, hb, hx.blk hg (hD g _ _ (h4 g ?_).1), r⟩
    injection hv with hv
    rw [hv]
    rfl
theorem own_turn {D : Nat → Obj → Prop} {e : TypeId} {B n k m c : Nat} {A : Option Addr} {xs : List Value} (h : w.ownsRow B e n (.slice A m c) k xs) (ho : ∀ q, blkOf A = some q → ¬ F q) (hx : Exc D w w') (hD : ∀ q cs fr, ¬ F q → ¬ D q (.cells cs e fr)) : w'.ownsRow B e n (.slice A m c) k xs := by
  refine ⟨h.1, ?_⟩
  rcases h.2 with h0 | ⟨g, cap, cur, hv, hb, hg, r⟩
  · exact .inl h0
  · refine .inr ⟨g, cap, cur, hv, hb, hx.blk hg (hD g _ _ (ho g ?_)), r⟩
    injection hv with hv
    rw [hv]
    rfl
theorem Kp.turn {D : Nat → Obj → Prop} (h : Kp Lo Up F w MA mc mk Ak ck hs Aw cw ws lk lw) (hx : Exc D w w') (h1 : ∀ q cs fr, ¬ F q → ¬ D q (.cells cs 3 fr)) (h2 : ∀ q cs fr, ¬ F q → ¬ D q (.cells cs 22 fr)) (hF : ∀ q, q < w.heap.size → F' q → F q) : Kp Lo Up F' w' MA mc mk Ak ck hs Aw cw ws lk lw :=
  ⟨own_turn h.mr h.mo hx h1, fun q hq e => h.mo q hq (hF q (own_blt h.mr hq).2 e), own_turn h.kr h.ko hx h2, fun q hq e => h.ko q hq (hF q (own_blt h.kr hq).2 e), own_turn h.wr h.wo hx h2, fun q hq e => h.wo q hq (hF q (own_blt h.wr hq).2 e), h.kw, h.hk.turn hx h1 hF, h.hw.turn hx h1 hF, h.ap⟩
theorem Kp.ext (h : Kp Lo Up F w MA mc mk Ak ck hs Aw cw ws lk lw) (he : Ext w w') : Kp Lo Up F w' MA mc mk Ak ck hs Aw cw ws lk lw := h.turn (D := fun _ _ => False) (Exc.of_ext he) (fun _ _ _ _ h => h) (fun _ _ _ _ h => h) (fun _ _ h => h)
theorem Kp.foot (h : Kp Lo Up F w MA mc mk Ak ck hs Aw cw ws lk lw) {G : Nat → Prop} (hx : Exc (fun q _ => G q) w w') (hG : ∀ q, G q → F q) (hF : ∀ q, q < w.heap.size → F' q → F q) : Kp Lo Up F' w' MA mc mk Ak ck hs Aw cw ws lk lw := h.turn hx (fun q _ _ hn e => hn (hG q e)) (fun q _ _ hn e => hn (hG q e)) hF
theorem Kp.box (h : Kp Lo Up F w MA mc mk Ak ck hs Aw cw ws lk lw) {g : Nat} (hg : w.grownBy w' (some g)) {cs : Array Value} {fr : Nat × Nat} (hb : w.heap[g]? = some (.cells cs 54 fr)) : Kp Lo Up F w' MA mc mk Ak ck hs Aw cw ws lk lw := by
  have hx : Exc (fun q o => q = g ∧ AnsBlk o) w w' := Exc.of_only hg (fun o ho => by
    rw [hb] at ho
    injection ho with ho
    exact ⟨rfl, _, _, ho.symm⟩)
  refine h.turn hx ?_ ?_ (fun _ _ h => h)
  · rintro q cs fr _ ⟨_, _, _, e⟩
    injection e with _ e
    exact absurd e (by decide)
  · rintro q cs fr _ ⟨_, _, _, e⟩
    injection e with _ e
    exact absurd e (by decide)
theorem Kp.up {Up' : Nat} (h : Kp Lo Up F w MA mc mk Ak ck hs Aw cw ws lk lw) (hu : Up ≤ Up') : Kp Lo Up' F w MA mc mk Ak ck hs Aw cw ws lk lw := by
  have hR : ∀ {ls hs}, Rows Lo Up F MA w ls hs → Rows Lo Up' F MA w ls hs := fun h => ⟨h.len, fun j hd hj => by
    obtain ⟨l, h1, h2, h3, h4⟩ := h.row j hd hj
    exact ⟨l, h1, h2, h3, fun q hq => ⟨(h4 q hq).1, (h4 q hq).2.1, by have := (h4 q hq).2.2; omega⟩⟩⟩
  exact ⟨h.mr, h.mo, h.kr, h.ko, h.wr, h.wo, h.kw, hR h.hk, hR h.hw, h.ap⟩
end
def LF (m : Pm) (r : Rm) (q : Nat) : Prop := m.foot q ∨ r.foot q
/-- The blocks that an append onto a row turns. -/
def DR (A : Option Addr) (N : Nat) (q : Nat) : Prop := blkOf A = some q ∨ N ≤ q
theorem PQ.lf {w : World} {B N : Nat} {V : World} {m0 : Pm} {r0 : Rm} {m : Pm} {r : Rm} {s1 s2 : Pl} (h : PQ w B N V m0 r0 m r s1 s2) {q : Nat} (hq : LF m r q) : B ≤ q ∧ q < V.heap.size := hq.elim h.p.foot_lt h.q.foot_lt
theorem PQ.keep {w : World} {B N : Nat} {V V' : World} {m0 : Pm} {r0 : Rm} {m : Pm} {r : Rm} {s1 s2 : Pl} (h : PQ w B N V m0 r0 m r s1 s2) {A : Option Addr} (hx : Exc (fun q _ => DR A V.heap.size q) V V') (hD : ∀ q, blkOf A = some q → ¬ LF m r q ∧ B ≤ q) : PQ w B N V' m0 r0 m r s1 s2 := by
  have hlo := h.lo
  have hhi := h.hi
  have hn : ∀ q, DR A V.heap.size q → ¬ LF m r q := fun q hq e => hq.elim (fun k => (hD q k).1 e) (fun k => by have := (h.lf e).2; omega)
  exact ⟨h.p.exc hx (fun q o hq e => hn q e (.inl hq)), h.q.exc hx (fun q o hq e => hn q e (.inr hq)), h.ap, h.mp, h.rp, hx.to_ext h.ex (fun q o e => e.elim (fun k => by have := (hD q k).2; omega) (fun k => by omega)), h.lo, Nat.le_trans h.hi hx.size⟩
theorem dr_step {w w' : World} {A A3 : Option Addr} {n m k c c3 : Nat} (hc : (∃ A' c', Value.slice A k c = .slice A' n c' ∧ Value.slice A3 m c3 = .slice A' m c' ∧ w.grownBy w' (Value.slice A k c).ownBlock) ∨ (w.grownBy w' none ∧ ∀ g, (Value.slice A3 m c3).ownBlock = some g → w.heap.size ≤ g)) :
    Exc (fun q _ => DR A w.heap.size q) w w' ∧ ∀ q, blkOf A3 = some q → DR A w.heap.size q := by
  obtain ⟨h1, h2⟩ := own_step (D := DR A w.heap.size) hc (fun q hq => .inl (by rw [ownBlock_eq] at hq; exact hq)) (fun q hq => .inr hq)
  exact ⟨h1, fun q hq => h2 q (by rw [ownBlock_eq]; exact hq)⟩
/-- A box of another type stays. -/
theorem box_dr {w w' : World} {B n k m c : Nat} {A : Option Addr} {e : TypeId} {xs : List Value} (h : w.ownsRow B e n (.slice A m c) k xs) (hx : Exc (fun q _ => DR A w.heap.size q) w w') {g : Nat} {cs : Array Value} {t : TypeId} {fr : Nat × Nat} (hg : w.heap[g]? = some (.cells cs t fr)) (hne : e ≠ t) : w'.heap[g]? = some (.cells cs t fr) := by
  refine hx.blk hg (fun e => ?_)
  rcases e with e | e
  · exact own_not h hg hne (by rw [ownBlock_eq]; exact e)
  · have := (Array.getElem?_eq_some_iff.1 hg).1
    omega
section
variable {Lo Up : Nat} {F : Nat → Prop} {w w' : World} {MA : Option Addr} {mc : Nat} {mk : List Int} {Ak : Option Addr} {ck : Nat} {hs : List Hd} {Aw : Option Addr} {cw : Nat} {ws : List Hd} {ls lk lw : List (List Int)}
/-- A row whose block an append onto another row does not turn. -/
theorem own_dr {B B' : Nat} {e : TypeId} {n k m c : Nat} {A A' : Option Addr} {xs : List Value} (h : w.ownsRow B e n (.slice A' m c) k xs) (hx : Exc (fun q _ => DR A w.heap.size q) w w') (hn : ∀ q, blkOf A' = some q → blkOf A ≠ some q) : w'.ownsRow B e n (.slice A' m c) k xs := by
  refine own_out h hx (fun b o hb e => ?_)
  have hb2 : blkOf A' = some b := by rw [ownBlock_eq] at hb; exact hb
  rcases e with e | e
  · exact hn b hb2 e
  · have := (own_blt h hb2).2
    omega
theorem own_ne {B B' : Nat} {e e' : TypeId} {n n' k k' m m' c c' : Nat} {A A' : Option Addr} {xs xs' : List Value} (h : w.ownsRow B e n (.slice A m c) k xs) (h' : w.ownsRow B' e' n' (.slice A' m' c') k' xs') (hne : e ≠ e') (q : Nat) (hq : blkOf A = some q) : blkOf A' ≠ some q := fun e2 => by
  obtain ⟨_, cs, hg⟩ := own_blk h' (show (Value.slice A' m' c').ownBlock = some q by rw [ownBlock_eq]; exact e2)
  exact own_not h hg hne (by rw [ownBlock_eq]; exact hq)
theorem Kp.mark {x : Int} {A3 : Option Addr} {c3 : Nat} (h : Kp Lo Up F w MA mc mk Ak ck hs Aw cw ws lk lw) (hF : ∀ q, F q → q < w.heap.size) (hr : RowI Lo w' A3 c3 (mk ++ [x])) (hx : Exc (fun q _ => DR MA w.heap.size q) w w') (hb : ∀ q, blkOf A3 = some q → DR MA w.heap.size q) :
    Kp Lo Up F w' A3 c3 (mk ++ [x]) Ak ck hs Aw cw ws lk lw := by
  have hR : ∀ {ls hs}, Rows Lo Up F MA w ls hs → Rows Lo Up F A3 w' ls hs := fun k => ⟨k.len, fun j hd hj => by
    obtain ⟨l, h1, h2, h3, h4⟩ := k.row j hd hj
    refine ⟨l, h1, h2, own_dr (B' := Lo) h3 hx (fun q hq => (h4 q hq).2.1), fun q hq => ⟨(h4 q hq).1, fun e => ?_, (h4 q hq).2.2⟩⟩
    rcases hb q e with e | e
    · exact (h4 q hq).2.1 e
    · have := (own_blt h3 hq).2
      omega⟩
  refine ⟨hr, fun q hq e => ?_, own_dr (B' := Lo) h.kr hx (own_ne h.kr h.mr (by decide)), h.ko, own_dr (B' := Lo) h.wr hx (own_ne h.wr h.mr (by decide)), h.wo, h.kw, hR h.hk, hR h.hw, h.ap⟩
  rcases hb q hq with k | k
  · exact h.mo q k e
  · have := hF q e
    omega
theorem Rows.push {Up' : Nat} {h : Hd} {l : List Int} (k : Rows Lo Up F MA w ls hs) (hu : Up ≤ Up') (h1 : h.k = l.length) (h2 : RowI Lo w h.A h.c l) (h3 : ∀ q, blkOf h.A = some q → ¬ F q ∧ blkOf MA ≠ some q ∧ q < Up') : Rows Lo Up' F MA w (ls ++ [l]) (hs ++ [h]) := by
  have hl := k.len
  refine ⟨by simp [hl], fun j hd hj => ?_⟩
  by_cases hlt : j < hs.length
  · rw [List.getElem?_append_left hlt] at hj
    obtain ⟨l2, g1, g2, g3, g4⟩ := k.row j hd hj
    exact ⟨l2, by rw [List.getElem?_append_left (by omega)]; exact g1, g2, g3, fun q hq => ⟨(g4 q hq).1, (g4 q hq).2.1, by have := (g4 q hq).2.2; omega⟩⟩
  · have hj0 : j = hs.length := by
      have := (List.getElem?_eq_some_iff.1 hj).1
      simp at this
      omega
    subst hj0
    rw [List.getElem?_append_right (Nat.le_refl _), Nat.sub_self] at hj
    injection hj with hj
    subst hj
    exact ⟨l, by rw [hl, List.getElem?_append_right (Nat.le_refl _), Nat.sub_self]; rfl, h1, h2, h3⟩
theorem Rows.dr {A : Option Addr} (k : Rows Lo Up F MA w ls hs) (hx : Exc (fun q _ => DR A w.heap.size q) w w') {B k' m c : Nat} {xs : List Value} (hA : w.ownsRow B 22 1 (.slice A m c) k' xs) : Rows Lo Up F MA w' ls hs := ⟨k.len, fun j hd hj => by
  obtain ⟨l, h1, h2, h3, h4⟩ := k.row j hd hj
  exact ⟨l, h1, h2, own_dr (B' := Lo) h3 hx (own_ne h3 hA (by decide)), h4⟩⟩
theorem apartH_push {h : Hd} {k : List Hd} (hk : ApartH k) (hn : ∀ (j : Nat) (h' : Hd) (q : Nat), k[j]? = some h' → blkOf h'.A = some q → blkOf h.A ≠ some q) : ApartH (k ++ [h]) := by
  intro j1 j2 h1 h2 q e1 e2 hne hq hq2
  have hq' : blkOf h1.A = some q := by rw [ownBlock_eq] at hq; exact hq
  have hq2' : blkOf h2.A = some q := by rw [ownBlock_eq] at hq2; exact hq2
  have last : ∀ {j : Nat} {h' : Hd}, (k ++ [h])[j]? = some h' → ¬ j < k.length → j = k.length ∧ h' = h := fun {j h'} e hj => by
    have := (List.getElem?_eq_some_iff.1 e).1
    have hj0 : j = k.length := by simp at this; omega
    subst hj0
    rw [List.getElem?_append_right (Nat.le_refl _), Nat.sub_self] at e
    injection e with e
    exact ⟨rfl, e.symm⟩
  by_cases l1 : j1 < k.length <;> by_cases l2 : j2 < k.length
  · rw [List.getElem?_append_left l1] at e1
    rw [List.getElem?_append_left l2] at e2
    exact hk j1 j2 h1 h2 q e1 e2 hne hq hq2
  · obtain ⟨_, rfl⟩ := last e2 l2
    rw [List.getElem?_append_left l1] at e1
    exact hn j1 h1 q e1 hq' hq2'
  · obtain ⟨_, rfl⟩ := last e1 l1
    rw [List.getElem?_append_left l2] at e2
    exact hn j2 h2 q e2 hq2' hq'
  · have := (last e1 l1).1
    have := (last e2 l2).1
    omega
theorem Kp.keptL {Up' : Nat} {hd : Hd} {l : List Int} {A3 : Option Addr} {c3 : Nat} (h : Kp Lo Up F w MA mc mk Ak ck hs Aw cw ws lk lw) (hF : ∀ q, F q → q < w.heap.size) (hu : Up ≤ Up') (h1 : hd.k = l.length) (h2 : RowI Lo w hd.A hd.c l) (h3 : ∀ q, blkOf hd.A = some q → ¬ F q ∧ blkOf MA ≠ some q ∧ q < Up') (h4 : ∀ q, blkOf hd.A = some q → Up ≤ q)
    (hr : w'.ownsRow Lo 22 1 (.slice A3 (hs.length + 1) c3) (hs.length + 1) (hs.map Hd.v ++ [hd.v])) (hx : Exc (fun q _ => DR Ak w.heap.size q) w w') (hb : ∀ q, blkOf A3 = some q → DR Ak w.heap.size q) :
    Kp Lo Up' F w' MA mc mk A3 c3 (hs ++ [hd]) Aw cw ws (lk ++ [l]) lw := by
  have hu2 := h.up hu
  refine ⟨own_dr (B' := Lo) h.mr hx (own_ne h.mr h.kr (by decide)), h.mo, by rw [List.length_append, List.map_append]; exact hr, fun q hq e => ?_, own_dr (B' := Lo) h.wr hx (fun q hq e => h.kw q e hq), h.wo, fun q hq e => ?_, ?_, hu2.hw.dr hx h.kr, ?_⟩
  · rcases hb q hq with k | k
    · exact h.ko q k e
    · have := hF q e
      omega
  · rcases hb q hq with k | k
    · exact h.kw q k e
    · have := (own_blt h.wr e).2
      omega
  · exact (h.hk.push hu h1 h2 h3).dr hx h.kr
  · refine apartH_push h.ap (fun j h' q hj hq e => ?_)
    obtain ⟨_, _, _, _, k4⟩ := h.hk.row j h' hj
    have := (k4 q hq).2.2
    have := h4 q e
    omega
theorem Kp.wantL {hd : Hd} {l : List Int} {A3 : Option Addr} {c3 : Nat} (h : Kp Lo Up F w MA mc mk Ak ck hs Aw cw ws lk lw) (hF : ∀ q, F q → q < w.heap.size) (h1 : hd.k = l.length) (h2 : RowI Lo w hd.A hd.c l) (h3 : ∀ q, blkOf hd.A = some q → ¬ F q ∧ blkOf MA ≠ some q ∧ q < Up)
    (hr : w'.ownsRow Lo 22 1 (.slice A3 (ws.length + 1) c3) (ws.length + 1) (ws.map Hd.v ++ [hd.v])) (hx : Exc (fun q _ => DR Aw w.heap.size q) w w') (hb : ∀ q, blkOf A3 = some q → DR Aw w.heap.size q) :
    Kp Lo Up F w' MA mc mk Ak ck hs A3 c3 (ws ++ [hd]) lk (lw ++ [l]) := by
  refine ⟨own_dr (B' := Lo) h.mr hx (own_ne h.mr h.wr (by decide)), h.mo, own_dr (B' := Lo) h.kr hx (fun q hq => h.kw q hq), h.ko, by rw [List.length_append, List.map_append]; exact hr, fun q hq e => ?_, fun q hq e => ?_, h.hk.dr hx h.wr, (h.hw.push (Nat.le_refl _) h1 h2 h3).dr hx h.wr, h.ap⟩
  · rcases hb q hq with k | k
    · exact h.wo q k e
    · have := hF q e
      omega
  · rcases hb q e with k | k
    · exact h.kw q hq k
    · have := (own_blt h.kr hq).2
      omega
end
def AskK (B N : Nat) (w : World) (m : Pm) (s' : Pl) (a : Ans) (e : Ending) (w' : World) : Prop := ∃ A c, e = .returned (a.v A c) ∧ PoolS B N w' m s' ∧ Moved m m w w' ∧ RowI w.heap.size w' A c a.l
def TellK (B N : Nat) (w : World) (m : Rm) (s' : Pl) (a : Ans) (e : Ending) (w' : World) : Prop := ∃ A c, e = .returned (a.v A c) ∧ RefS B N w' m s' ∧ RMoved m m w w' ∧ RowI w.heap.size w' A c a.l
set_option maxRecDepth 100000 in
set_option maxHeartbeats 1000000 in
theorem asked7k {B N : Nat} {w : World} {m : Pm} {s : Pl} (h : PoolS B N w m s) (hN : N ≤ 99000) (hBw : B ≤ w.heap.size) (n t : Int) (MA : Option Addr) (ml mc : Nat) :
    Calls Try.prog 25 #[.pointer (some ⟨m.p, 0, none⟩), .agg #[.int .i64 7, .int .i64 n, .int .i64 t], .slice MA ml mc] w (AskK B (N + 1) w m s ⟨0, 0, false, s.cnt, 0⟩) := by
  have hE := (ext_alloc w (Obj.cells #[.int .i64 7, .int .i64 n, .int .i64 t] 33)).trans (ext_alloc (w.alloc (Obj.cells #[.int .i64 7, .int .i64 n, .int .i64 t] 33)) (Obj.cells #[.int .i64 0, .int .i64 0, .bool false, .slice none 0 0, .int .i64 0] 54))
  have hb1 := (ext_alloc (w.alloc (Obj.cells #[.int .i64 7, .int .i64 n, .int .i64 t] 33)) (Obj.cells #[.int .i64 0, .int .i64 0, .bool false, .slice none 0 0, .int .i64 0] 54)).blk (heap_alloc_new w (Obj.cells #[.int .i64 7, .int .i64 n, .int .i64 t] 33))
  have hb2 := heap_alloc_new (w.alloc (Obj.cells #[.int .i64 7, .int .i64 n, .int .i64 t] 33)) (Obj.cells #[.int .i64 0, .int .i64 0, .bool false, .slice none 0 0, .int .i64 0] 54)
  have hsz : ((w.alloc (Obj.cells #[.int .i64 7, .int .i64 n, .int .i64 t] 33)).alloc (Obj.cells #[.int .i64 0, .int .i64 0, .bool false, .slice none 0 0, .int .i64 0] 54)).heap.size = w.heap.size + 2 := by simp
  rw [show (w.alloc (Obj.cells #[.int .i64 7, .int .i64 n, .int .i64 t] 33)).heap.size = w.heap.size + 1 by simp] at hb2
  have h1 := h.ext hE
  have hB1 : B ≤ ((w.alloc (Obj.cells #[.int .i64 7, .int .i64 n, .int .i64 t] 33)).alloc (Obj.cells #[.int .i64 0, .int .i64 0, .bool false, .slice none 0 0, .int .i64 0] 54)).heap.size := by rw [hsz]; omega
  have hnf : ¬ m.foot (w.heap.size + 1) := fun e => by have := (h.foot_lt e).2; omega
  have hc := counts_any h1
  go_enter Try.func25, Try.ntmps25
  go_wp2_with fail
  refine hc.mono ?_
  rintro e w2 ⟨A, c, rfl, hR, hx⟩
  clear hc
  have hb2 := hx.blk hb2
  rw [hsz] at hR
  go_wp2_with (refine wpList_store_box rfl 54 _ _ rfl (w.heap.size + 1) _ rfl rfl 54 _ hb2 (by kernel_rfl) rfl (by simp [Value.oneCell']) (fun w4 hb hg => ?_))
  obtain ⟨z1, z2, z3⟩ := ask_fin hE hsz h ((h1.ext hx).mono (Nat.le_succ _)) (Moved.of_ext hx) hR hg
  exact bodyPost_ret (results_cell_row rfl _ _ _ _ _ _ _ rfl hb Try.underlying54 rfl (by kernel_rfl)) rfl ⟨A, c, rfl, z1, z2, z3⟩
set_option maxRecDepth 100000 in
set_option maxHeartbeats 1000000 in
theorem told7k {B N : Nat} {w : World} {m : Rm} {s : Pl} (h : RefS B N w m s) (hN : N ≤ 99000) (hBw : B ≤ w.heap.size) (n t : Int) (MA : Option Addr) (ml mc : Nat) :
    Calls Try.prog 26 #[.pointer (some ⟨m.p, 0, none⟩), .agg #[.int .i64 7, .int .i64 n, .int .i64 t], .slice MA ml mc] w (TellK B (N + 1) w m s ⟨0, 0, false, s.cnt, 0⟩) := by
  have hE := (ext_alloc w (Obj.cells #[.int .i64 7, .int .i64 n, .int .i64 t] 33)).trans (ext_alloc (w.alloc (Obj.cells #[.int .i64 7, .int .i64 n, .int .i64 t] 33)) (Obj.cells #[.int .i64 0, .int .i64 0, .bool false, .slice none 0 0, .int .i64 0] 54))
  have hb1 := (ext_alloc (w.alloc (Obj.cells #[.int .i64 7, .int .i64 n, .int .i64 t] 33)) (Obj.cells #[.int .i64 0, .int .i64 0, .bool false, .slice none 0 0, .int .i64 0] 54)).blk (heap_alloc_new w (Obj.cells #[.int .i64 7, .int .i64 n, .int .i64 t] 33))
  have hb2 := heap_alloc_new (w.alloc (Obj.cells #[.int .i64 7, .int .i64 n, .int .i64 t] 33)) (Obj.cells #[.int .i64 0, .int .i64 0, .bool false, .slice none 0 0, .int .i64 0] 54)
  have hsz : ((w.alloc (Obj.cells #[.int .i64 7, .int .i64 n, .int .i64 t] 33)).alloc (Obj.cells #[.int .i64 0, .int .i64 0, .bool false, .slice none 0 0, .int .i64 0] 54)).heap.size = w.heap.size + 2 := by simp
  rw [show (w.alloc (Obj.cells #[.int .i64 7, .int .i64 n, .int .i64 t] 33)).heap.size = w.heap.size + 1 by simp] at hb2
  have h1 := h.ext hE
  have hB1 : B ≤ ((w.alloc (Obj.cells #[.int .i64 7, .int .i64 n, .int .i64 t] 33)).alloc (Obj.cells #[.int .i64 0, .int .i64 0, .bool false, .slice none 0 0, .int .i64 0] 54)).heap.size := by rw [hsz]; omega
  have hnf : ¬ m.foot (w.heap.size + 1) := fun e => by have := (h.foot_lt e).2; omega
  have hc := rcounts_any h1
  go_enter Try.func26, Try.ntmps26
  go_wp2_with fail
  refine hc.mono ?_
  rintro e w2 ⟨A, c, rfl, hR, hx⟩
  clear hc
  have hb2 := hx.blk hb2
  rw [hsz] at hR
  go_wp2_with (refine wpList_store_box rfl 54 _ _ rfl (w.heap.size + 1) _ rfl rfl 54 _ hb2 (by kernel_rfl) rfl (by simp [Value.oneCell']) (fun w4 hb hg => ?_))
  obtain ⟨z1, z2, z3⟩ := tell_fin hE hsz h ((h1.ext hx).mono (Nat.le_succ _)) (RMoved.of_ext hx) hR hg
  exact bodyPost_ret (results_cell_row rfl _ _ _ _ _ _ _ rfl hb Try.underlying54 rfl (by kernel_rfl)) rfl ⟨A, c, rfl, z1, z2, z3⟩
/-- What stays from round to round. -/
structure Lw where
  MA : Option Addr
  mc : Nat
  mks : List Int
  Ak : Option Addr
  ck : Nat
  hs : List Hd
  Aw : Option Addr
  cw : Nat
  ws : List Hd
  ls : List (List Int)
structure St (w : World) (B N Up : Nat) (V : World) (m0 : Pm) (r0 : Rm) (m : Pm) (r : Rm) (s1 s2 : Pl) (x : Lw) : Prop where
  pq : PQ w B N V m0 r0 m r s1 s2
  kp : Kp B Up (LF m r) V x.MA x.mc x.mks x.Ak x.ck x.hs x.Aw x.cw x.ws x.ls x.ls
section
variable {w : World} {B N Up N0 : Nat} {V V' : World} {m0 m : Pm} {r0 r : Rm} {s1 s2 : Pl} {x : Lw} {a : Ans}
theorem St.ext (h : St w B N Up V m0 r0 m r s1 s2 x) (he : Ext V V') : St w B N Up V' m0 r0 m r s1 s2 x := ⟨h.pq.ext he, h.kp.ext he⟩
theorem St.box (h : St w B N Up V m0 r0 m r s1 s2 x) {g : Nat} {cs : Array Value} {fr : Nat × Nat} (hb : V.heap[g]? = some (.cells cs 54 fr)) (hg : V.grownBy V' (some g)) (hB : B ≤ g) : St w B N Up V' m0 r0 m r s1 s2 x := ⟨h.pq.box hb hg hB, h.kp.box hg hb⟩
theorem rowI_box {B : Nat} {A : Option Addr} {c : Nat} {l : List Int} (h : RowI B V A c l) {g : Nat} {cs : Array Value} {fr : Nat × Nat} (hb : V.heap[g]? = some (.cells cs 54 fr)) (hg : V.grownBy V' (some g)) : RowI B V' A c l := by
  have hx : Exc (fun q _ => q = g) V V' := Exc.of_only hg (fun _ _ => rfl)
  refine own_out h hx (fun b o hb2 e => ?_)
  subst e
  exact own_not h hb (by decide) hb2
end
/-- Behind asked. -/
def QA (w : World) (B N Up N0 : Nat) (m0 : Pm) (r0 : Rm) (s1 s2 : Pl) (x : Lw) (k : Int) (a : Ans) (z : Value) (V : World) : Prop := ∃ m r A c, z = a.v A c ∧ St w B N Up V m0 r0 m r s1 s2 x ∧ RowI N0 V A c a.l ∧ (k = 7 → ∀ q, blkOf A = some q → ¬ LF m r q) ∧ ∀ q, r.foot q → q < N0
/-- Behind told. -/
def QB (w : World) (B N Up N0 : Nat) (m0 : Pm) (r0 : Rm) (s1 s2 : Pl) (x : Lw) (k : Int) (a : Ans) (z6 z : Value) (V : World) : Prop := ∃ m r A c A' c', z6 = a.v A c ∧ z = a.v A' c' ∧ St w B N Up V m0 r0 m r s1 s2 x ∧ RowI N0 V A c a.l ∧ RowI N0 V A' c' a.l ∧ (k = 7 → ∀ q, (blkOf A = some q ∨ blkOf A' = some q) → ¬ LF m r q)
/-- A box that holds an answer. -/
def BoxZ (C : Nat) (z v : Value) (V : World) : Prop := ∃ g cs, v = .pointer (some ⟨g, 0, none⟩) ∧ C ≤ g ∧ z = .agg cs ∧ V.heap[g]? = some (.cells cs 54 (0, 0))
def QC (w : World) (B N Up N0 : Nat) (m0 : Pm) (r0 : Rm) (s1 s2 : Pl) (x : Lw) (k : Int) (a : Ans) (z6 z v : Value) (V : World) : Prop := QB w B N Up N0 m0 r0 s1 s2 x k a z6 z V ∧ BoxZ N0 z6 v V
def QD (w : World) (B N Up N0 : Nat) (m0 : Pm) (r0 : Rm) (s1 s2 : Pl) (x : Lw) (k : Int) (a : Ans) (z6 z v v' : Value) (V : World) : Prop := QB w B N Up N0 m0 r0 s1 s2 x k a z6 z V ∧ BoxZ N0 z6 v V ∧ BoxZ N0 z v' V ∧ v ≠ v'
section
variable {w : World} {B N Up N0 : Nat} {m0 : Pm} {r0 : Rm} {s1 s2 : Pl} {x : Lw} {k : Int} {a : Ans}
theorem QA.lasts (z : Value) : Lasts Ext (QA w B N Up N0 m0 r0 s1 s2 x k a z) := fun w' w2 ⟨m, r, A, c, h1, h2, h3, h4⟩ he => ⟨m, r, A, c, h1, h2.ext he, own_ext h3 he, h4⟩
theorem QB.lasts (z6 z : Value) : Lasts Ext (QB w B N Up N0 m0 r0 s1 s2 x k a z6 z) := fun w' w2 ⟨m, r, A, c, A', c', h1, h2, h3, h4, h5, h6⟩ he => ⟨m, r, A, c, A', c', h1, h2, h3.ext he, own_ext h4 he, own_ext h5 he, h6⟩
theorem BoxZ.lasts (C : Nat) (z v : Value) : Lasts Ext (BoxZ C z v) := fun w' w2 ⟨g, cs, h1, h2, h3, h4⟩ he => ⟨g, cs, h1, h2, h3, he.blk h4⟩
theorem QC.lasts (z6 z v : Value) : Lasts Ext (QC w B N Up N0 m0 r0 s1 s2 x k a z6 z v) := fun w' w2 h he => ⟨QB.lasts _ _ _ _ h.1 he, BoxZ.lasts _ _ _ _ _ h.2 he⟩
theorem QD.lasts (z6 z v v' : Value) : Lasts Ext (QD w B N Up N0 m0 r0 s1 s2 x k a z6 z v v') := fun w' w2 h he => ⟨QB.lasts _ _ _ _ h.1 he, BoxZ.lasts _ _ _ _ _ h.2.1 he, BoxZ.lasts _ _ _ _ _ h.2.2.1 he, h.2.2.2⟩
theorem QB.box {V V' : World} {z6 z : Value} (h : QB w B N Up N0 m0 r0 s1 s2 x k a z6 z V) {g : Nat} {cs : Array Value} {fr : Nat × Nat} (hb : V.heap[g]? = some (.cells cs 54 fr)) (hg : V.grownBy V' (some g)) (hB : B ≤ g) : QB w B N Up N0 m0 r0 s1 s2 x k a z6 z V' := by
  obtain ⟨m, r, A, c, A', c', h1, h2, h3, h4, h5, h6⟩ := h
  exact ⟨m, r, A, c, A', c', h1, h2, h3.box hb hg hB, rowI_box h4 hb hg, rowI_box h5 hb hg, h6⟩
theorem quart1 {V : World} {m : Pm} {r : Rm} {s : Pl} (h : St w B N Up V m0 r0 m r s s2 x) (hN : N ≤ 99000) (hN0 : N0 ≤ V.heap.size) (hf : ∀ q, LF m r q → q < N0) (o : Opp) (hb : ∀ z ∈ x.mks, 0 ≤ z ∧ z ≤ 100000) (hl : x.mks.length ≤ 100000) :
    Calls Try.prog 25 #[.pointer (some ⟨m0.p, 0, none⟩), .agg #[.int .i64 o.k, .int .i64 o.n, .int .i64 o.t], .slice x.MA x.mks.length x.mc] V fun e V' => ∃ z, e = .returned z ∧ Exa B N0 V V' ∧ QA w B (N + 1) Up N0 m0 r0 (s.askS o.k o.n x.mks) s2 x o.k (s.askA o.k o.n o.t x.mks) z V' := by
  have hx := h.kp.mr.nl (fun z hz => by have := hb z hz; omega)
  have hp := h.pq
  by_cases k7 : o.k = 7
  · have hc := asked7k hp.p hN hp.hi o.n o.t x.MA x.mks.length x.mc
    rw [hp.mp] at hc
    rw [k7]
    refine hc.mono ?_
    rintro e V' ⟨A, c, rfl, q1, q2, q3⟩
    refine ⟨_, rfl, Exa.of_foot q2.x (fun q hq => ⟨(hp.p.foot_lt hq).1, hf q (.inl hq)⟩), m, r, A, c, rfl, ⟨hp.left q2 q1 (Nat.le_succ _), h.kp.foot q2.x (fun q hq => .inl hq) (fun q _ hq => hq)⟩, own_mono q3 hN0, fun _ q hq e => ?_, fun q hq => hf q (.inr hq)⟩
    have h1 := (own_blt q3 hq).1
    have h2 := (hp.lf e).2
    omega
  · have hc := asked_any hp.p hN hp.hi o.k o.n o.t hx hl
    rw [hp.mp] at hc
    refine hc.mono ?_
    rintro e V' ⟨m', A, c, rfl, q1, q2, q3⟩
    refine ⟨_, rfl, Exa.of_foot q2.x (fun q hq => ⟨(hp.p.foot_lt hq).1, hf q (.inl hq)⟩), m', r, A, c, rfl, ⟨hp.left q2 q1 (Nat.le_succ _), h.kp.foot q2.x (fun q hq => .inl hq) (fun q hlt hq => ?_)⟩, own_mono q3 hN0, fun e => absurd e k7, fun q hq => hf q (.inr hq)⟩
    rcases hq with hq | hq
    · exact (q2.foot q hq).elim .inl (fun e => by omega)
    · exact .inr hq
theorem quart2 {V : World} {s : Pl} {z6 : Value} (h : QA w B N Up N0 m0 r0 s1 s x k a z6 V) (hN : N ≤ 99000) (hN0 : N0 ≤ V.heap.size) (o : Opp) (hk : o.k = k) (hb : ∀ z ∈ x.mks, 0 ≤ z ∧ z ≤ 100000) (hl : x.mks.length ≤ 100000) (ha : s.askA o.k o.n o.t x.mks = a) :
    Calls Try.prog 26 #[.pointer (some ⟨r0.p, 0, none⟩), .agg #[.int .i64 o.k, .int .i64 o.n, .int .i64 o.t], .slice x.MA x.mks.length x.mc] V fun e V' => ∃ z, e = .returned z ∧ Exa B N0 V V' ∧ QB w B (N + 1) Up N0 m0 r0 s1 (s.askS o.k o.n x.mks) x k a z6 z V' := by
  obtain ⟨m, r, A, c, rfl, hS, hR, hoff, hf⟩ := h
  have hx := hS.kp.mr.nl (fun z hz => by have := hb z hz; omega)
  have hp := hS.pq
  subst hk
  have hkeep : ∀ {V' : World}, Exc (fun q _ => r.foot q) V V' → RowI N0 V' A c a.l := fun {V'} hx => own_out hR hx (fun b o hb2 e => by
    have h1 := (own_blk hR hb2).1
    have h2 := hf b e
    omega)
  by_cases k7 : o.k = 7
  · have hc := told7k hp.q hN hp.hi o.n o.t x.MA x.mks.length x.mc
    rw [hp.rp] at hc
    have ha7 : (⟨0, 0, false, s.cnt, 0⟩ : Ans) = a := by rw [← ha, k7]; rfl
    have hs7 : s.askS o.k o.n x.mks = s := by rw [k7]; rfl
    rw [ha7] at hc
    rw [hs7]
    have hoff7 := hoff k7
    rw [k7]
    refine hc.mono ?_
    rintro e V' ⟨A', c', rfl, q1, q2, q3⟩
    refine ⟨_, rfl, Exa.of_foot q2.x (fun q hq => ⟨(hp.q.foot_lt hq).1, hf q hq⟩), m, r, A, c, A', c', rfl, rfl, ⟨hp.right q2 q1 (Nat.le_succ _), hS.kp.foot q2.x (fun q hq => .inr hq) (fun q _ hq => hq)⟩, hkeep q2.x, own_mono q3 hN0, fun _ q hq e => ?_⟩
    rcases hq with hq | hq
    · exact hoff7 q hq e
    · have h1 := (own_blt q3 hq).1
      have h2 := (hp.lf e).2
      omega
  · have hc := told_any hp.q hN hp.hi o.k o.n o.t hx hl
    rw [hp.rp, ha] at hc
    refine hc.mono ?_
    rintro e V' ⟨r', A', c', rfl, q1, q2, q3⟩
    refine ⟨_, rfl, Exa.of_foot q2.x (fun q hq => ⟨(hp.q.foot_lt hq).1, hf q hq⟩), m, r', A, c, A', c', rfl, rfl, ⟨hp.right q2 q1 (Nat.le_succ _), hS.kp.foot q2.x (fun q hq => .inr hq) (fun q hlt hq => ?_)⟩, hkeep q2.x, own_mono q3 hN0, fun e => absurd e k7⟩
    rcases hq with hq | hq
    · exact .inl hq
    · exact (q2.foot q hq).elim .inr (fun e => by omega)
end
end Go.Proofs.Ytaalhicdeibodaa
