/- Layer 5, at uint16: the law's work in memory. No condition. -/
import Derived.Test.YtffapgemacbdjaaRjd
import Derived.Test.YtffapgemacbdjaaReg2
namespace Go.Proofs.Ytffapgemacbdjaa
open Go.RowKit Go.Proofs Go.Shelf
set_option linter.unusedVariables false
theorem blk_ne {w : World} {a b : Nat} {x y : Array Value} {t t' : TypeId} {f f' : Nat × Nat} (h1 : w.heap[a]? = some (.cells x t f)) (h2 : w.heap[b]? = some (.cells y t' f')) (hne : t ≠ t') : a ≠ b := by
  rintro rfl
  rw [h1] at h2
  injection h2 with h2
  injection h2 with _ h2
  exact hne h2
theorem own_one {w w' : World} {B b n k : Nat} {e : TypeId} {v : Value} {xs : List Value} (h : w.ownsRow B e n v k xs) (hx : Exc (fun q _ => q = b) w w') (hb : v.ownBlock ≠ some b) : w'.ownsRow B e n v k xs := by
  refine ⟨h.1, ?_⟩
  rcases h.2 with h0 | ⟨g, cap, cur, hv, hB, hg, r⟩
  · exact .inl h0
  · exact .inr ⟨g, cap, cur, hv, hB, hx.blk hg (by rintro rfl; exact hb (by rw [hv]; rfl)), r⟩
theorem SetAtd.one {B p c b : Nat} {A : Option Addr} {w w' : World} {L : List Rn} (h : SetAtd B p A c w L) (hx : Exc (fun q _ => q = b) w w') (h1 : p ≠ b) (h2 : (Value.slice A L.length c).ownBlock ≠ some b) : SetAtd B p A c w' L := ⟨hx.blk h.hd h1, own_one h.row hx h2, h.wf, h.bd⟩
theorem SetAtr.one {B p c b : Nat} {A : Option Addr} {w w' : World} {L : List Rn} (h : SetAtr B p A c w L) (hx : Exc (fun q _ => q = b) w w') (h1 : p ≠ b) (h2 : (Value.slice A L.length c).ownBlock ≠ some b) : SetAtr B p A c w' L := ⟨hx.blk h.hd h1, own_one h.row hx h2, h.wf, h.bd⟩
theorem WalkAtd.one {B p c b : Nat} {A : Option Addr} {w w' : World} {L : List Rn} (h : WalkAtd B p A c w L) (hx : Exc (fun q _ => q = b) w w') (h1 : p ≠ b) (h2 : (Value.slice A L.length c).ownBlock ≠ some b) : WalkAtd B p A c w' L := ⟨hx.blk h.hd h1, own_one h.row hx h2, h.wf, h.bd⟩
/-- Three sets: their blocks, their rows. -/
structure Tri where
  P : Nat → Nat
  A : Nat → Option Addr
  c : Nat → Nat
  L : Nat → List Rn
def Tri.put (s : Tri) (i p : Nat) (A : Option Addr) (c : Nat) (L : List Rn) : Tri := ⟨fun j => if j = i then p else s.P j, fun j => if j = i then A else s.A j, fun j => if j = i then c else s.c j, fun j => if j = i then L else s.L j⟩
abbrev Tri.v (s : Tri) (i : Nat) : Value := .slice (s.A i) (s.L i).length (s.c i)
structure Setsd (B n : Nat) (w : World) (s : Tri) : Prop where
  ps : ∀ i, i < 3 → SetAtd B (s.P i) (s.A i) (s.c i) w (s.L i)
  ge : ∀ i, i < 3 → B ≤ s.P i
  inj : ∀ i j, i < 3 → j < 3 → i ≠ j → s.P i ≠ s.P j
  len : ∀ i, i < 3 → (s.L i).length ≤ n
structure Setsr (B n : Nat) (w : World) (s : Tri) : Prop where
  ps : ∀ i, i < 3 → SetAtr B (s.P i) (s.A i) (s.c i) w (s.L i)
  ge : ∀ i, i < 3 → B ≤ s.P i
  inj : ∀ i j, i < 3 → j < 3 → i ≠ j → s.P i ≠ s.P j
  len : ∀ i, i < 3 → (s.L i).length ≤ n
theorem Setsd.keep {B n b : Nat} {w w' : World} {s : Tri} (h : Setsd B n w s) (hx : Exc (fun q _ => q = b) w w') (h1 : ∀ i, i < 3 → s.P i ≠ b) (h2 : ∀ i, i < 3 → (s.v i).ownBlock ≠ some b) : Setsd B n w' s :=
  ⟨fun i hi => (h.ps i hi).one hx (h1 i hi) (h2 i hi), h.ge, h.inj, h.len⟩
theorem Setsr.keep {B n b : Nat} {w w' : World} {s : Tri} (h : Setsr B n w s) (hx : Exc (fun q _ => q = b) w w') (h1 : ∀ i, i < 3 → s.P i ≠ b) (h2 : ∀ i, i < 3 → (s.v i).ownBlock ≠ some b) : Setsr B n w' s :=
  ⟨fun i hi => (h.ps i hi).one hx (h1 i hi) (h2 i hi), h.ge, h.inj, h.len⟩
theorem Setsd.ext {B n : Nat} {w w' : World} {s : Tri} (h : Setsd B n w s) (hx : Ext w w') : Setsd B n w' s := ⟨fun i hi => (h.ps i hi).ext hx, h.ge, h.inj, h.len⟩
theorem Setsr.ext {B n : Nat} {w w' : World} {s : Tri} (h : Setsr B n w s) (hx : Ext w w') : Setsr B n w' s := ⟨fun i hi => (h.ps i hi).ext hx, h.ge, h.inj, h.len⟩
theorem Setsd.mono {B n m : Nat} {w : World} {s : Tri} (h : Setsd B n w s) (hm : n ≤ m) : Setsd B m w s := ⟨h.ps, h.ge, h.inj, fun i hi => Nat.le_trans (h.len i hi) hm⟩
theorem Setsr.mono {B n m : Nat} {w : World} {s : Tri} (h : Setsr B n w s) (hm : n ≤ m) : Setsr B m w s := ⟨h.ps, h.ge, h.inj, fun i hi => Nat.le_trans (h.len i hi) hm⟩
/-- One set has turned into another one (in its block or in another block p). -/
theorem Setsd.put {B n b i p c : Nat} {A : Option Addr} {L : List Rn} {w w' : World} {s : Tri} (h : Setsd B n w s) (hi : i < 3) (hx : Exc (fun q _ => q = b) w w') (h1 : ∀ j, j < 3 → j ≠ i → s.P j ≠ b) (h2 : ∀ j, j < 3 → (s.v j).ownBlock ≠ some b)
    (hp : SetAtd B p A c w' L) (hB : B ≤ p) (hn : ∀ j, j < 3 → j ≠ i → s.P j ≠ p) (hl : L.length ≤ n) : Setsd B n w' (s.put i p A c L) := by
  refine ⟨fun j hj => ?_, fun j hj => ?_, fun j k hj hk hjk => ?_, fun j hj => ?_⟩
  · simp only [Tri.put]
    by_cases e : j = i
    · simp only [if_pos e]; exact hp
    · simp only [if_neg e]; exact (h.ps j hj).one hx (h1 j hj e) (h2 j hj)
  · simp only [Tri.put]
    by_cases e : j = i
    · simp only [if_pos e]; exact hB
    · simp only [if_neg e]; exact h.ge j hj
  · simp only [Tri.put]
    by_cases e : j = i
    · have e2 : k ≠ i := fun h => hjk (e.trans h.symm)
      simp only [if_pos e, if_neg e2]
      exact fun h => hn k hk e2 h.symm
    · by_cases e2 : k = i
      · simp only [if_neg e, if_pos e2]
        exact hn j hj e
      · simp only [if_neg e, if_neg e2]
        exact h.inj j k hj hk hjk
  · simp only [Tri.put]
    by_cases e : j = i
    · simp only [if_pos e]; exact hl
    · simp only [if_neg e]; exact h.len j hj
theorem Setsr.put {B n b i p c : Nat} {A : Option Addr} {L : List Rn} {w w' : World} {s : Tri} (h : Setsr B n w s) (hi : i < 3) (hx : Exc (fun q _ => q = b) w w') (h1 : ∀ j, j < 3 → j ≠ i → s.P j ≠ b) (h2 : ∀ j, j < 3 → (s.v j).ownBlock ≠ some b)
    (hp : SetAtr B p A c w' L) (hB : B ≤ p) (hn : ∀ j, j < 3 → j ≠ i → s.P j ≠ p) (hl : L.length ≤ n) : Setsr B n w' (s.put i p A c L) := by
  refine ⟨fun j hj => ?_, fun j hj => ?_, fun j k hj hk hjk => ?_, fun j hj => ?_⟩
  · simp only [Tri.put]
    by_cases e : j = i
    · simp only [if_pos e]; exact hp
    · simp only [if_neg e]; exact (h.ps j hj).one hx (h1 j hj e) (h2 j hj)
  · simp only [Tri.put]
    by_cases e : j = i
    · simp only [if_pos e]; exact hB
    · simp only [if_neg e]; exact h.ge j hj
  · simp only [Tri.put]
    by_cases e : j = i
    · have e2 : k ≠ i := fun h => hjk (e.trans h.symm)
      simp only [if_pos e, if_neg e2]
      exact fun h => hn k hk e2 h.symm
    · by_cases e2 : k = i
      · simp only [if_neg e, if_pos e2]
        exact hn j hj e
      · simp only [if_neg e, if_neg e2]
        exact h.inj j k hj hk hjk
  · simp only [Tri.put]
    by_cases e : j = i
    · simp only [if_pos e]; exact hl
    · simp only [if_neg e]; exact h.len j hj
/-- A walk that is kept. -/
structure Wlk where
  b : Nat
  A : Option Addr
  c : Nat
  q : Nat
  A' : Option Addr
  c' : Nat
  L : List Rn
def Wlk.valsd (x : Wlk) : List Value := [walkVd x.b, .pointer (some ⟨x.q, 0, none⟩)]
structure Walksd (B n : Nat) (w : World) (A : Option Addr) (c : Nat) (ws : List Wlk) : Prop where
  row : w.ownsRow B 218 2 (.slice A ws.length c) ws.length (ws.flatMap Wlk.valsd)
  wk : ∀ x ∈ ws, WalkAtd B x.b x.A x.c w x.L
  of : ∀ x ∈ ws, SetAtr B x.q x.A' x.c' w x.L
  len : ∀ x ∈ ws, x.L.length ≤ n
  cnt : ws.length ≤ n
theorem Walksd.keep {B n b c : Nat} {A : Option Addr} {w w' : World} {ws : List Wlk} (h : Walksd B n w A c ws) (hx : Exc (fun q _ => q = b) w w') (h0 : (Value.slice A ws.length c).ownBlock ≠ some b) (h1 : ∀ x ∈ ws, x.b ≠ b ∧ (Value.slice x.A x.L.length x.c).ownBlock ≠ some b) (h2 : ∀ x ∈ ws, x.q ≠ b ∧ (Value.slice x.A' x.L.length x.c').ownBlock ≠ some b) : Walksd B n w' A c ws :=
  ⟨own_one h.row hx h0, fun x hm => (h.wk x hm).one hx (h1 x hm).1 (h1 x hm).2, fun x hm => (h.of x hm).one hx (h2 x hm).1 (h2 x hm).2, h.len, h.cnt⟩
theorem Walksd.ext {B n c : Nat} {A : Option Addr} {w w' : World} {ws : List Wlk} (h : Walksd B n w A c ws) (hx : Ext w w') : Walksd B n w' A c ws := ⟨own_ext h.row hx, fun x hm => (h.wk x hm).ext hx, fun x hm => (h.of x hm).ext hx, h.len, h.cnt⟩
theorem Walksd.mono {B n m c : Nat} {A : Option Addr} {w : World} {ws : List Wlk} (h : Walksd B n w A c ws) (hm : n ≤ m) : Walksd B m w A c ws := ⟨h.row, h.wk, h.of, fun x hx => Nat.le_trans (h.len x hx) hm, Nat.le_trans h.cnt hm⟩
/-- A list that was told. -/
structure Tld where
  A : Option Addr
  c : Nat
  L : List Rn
abbrev Tld.v (t : Tld) : Value := .slice t.A t.L.length t.c
structure Toldd (B n : Nat) (w : World) (A : Option Addr) (c : Nat) (ts : List Tld) : Prop where
  row : w.ownsRow B 203 1 (.slice A ts.length c) ts.length (ts.map Tld.v)
  tk : ∀ t ∈ ts, RowRd B w t.A t.c t.L
  bd : ∀ t ∈ ts, ∀ r ∈ t.L, Bdd r
  sep : ∀ (i j : Nat) (t u : Tld), ts[i]? = some t → ts[j]? = some u → i ≠ j → ∀ q, t.v.ownBlock = some q → u.v.ownBlock ≠ some q
  len : ∀ t ∈ ts, t.L.length ≤ n
  cnt : ts.length ≤ n
theorem Toldd.keep {B n b c : Nat} {A : Option Addr} {w w' : World} {ts : List Tld} (h : Toldd B n w A c ts) (hx : Exc (fun q _ => q = b) w w') (h0 : (Value.slice A ts.length c).ownBlock ≠ some b) (h1 : ∀ t ∈ ts, t.v.ownBlock ≠ some b) : Toldd B n w' A c ts :=
  ⟨own_one h.row hx h0, fun t hm => own_one (h.tk t hm) hx (h1 t hm), h.bd, h.sep, h.len, h.cnt⟩
theorem Toldd.ext {B n c : Nat} {A : Option Addr} {w w' : World} {ts : List Tld} (h : Toldd B n w A c ts) (hx : Ext w w') : Toldd B n w' A c ts := ⟨own_ext h.row hx, fun t hm => (h.tk t hm).ext hx, h.bd, h.sep, h.len, h.cnt⟩
theorem Toldd.mono {B n m c : Nat} {A : Option Addr} {w : World} {ts : List Tld} (h : Toldd B n w A c ts) (hm : n ≤ m) : Toldd B m w A c ts := ⟨h.row, h.tk, h.bd, h.sep, fun x hx => Nat.le_trans (h.len x hx) hm, Nat.le_trans h.cnt hm⟩
structure Want (B n : Nat) (w : World) (A : Option Addr) (c : Nat) (ts : List Tld) : Prop where
  row : w.ownsRow B 22 1 (.slice A ts.length c) ts.length (ts.map Tld.v)
  tk : ∀ t ∈ ts, RowRr B w t.A t.c t.L
  len : ∀ t ∈ ts, t.L.length ≤ n
  cnt : ts.length ≤ n
theorem Want.keep {B n b c : Nat} {A : Option Addr} {w w' : World} {ts : List Tld} (h : Want B n w A c ts) (hx : Exc (fun q _ => q = b) w w') (h0 : (Value.slice A ts.length c).ownBlock ≠ some b) (h1 : ∀ t ∈ ts, t.v.ownBlock ≠ some b) : Want B n w' A c ts :=
  ⟨own_one h.row hx h0, fun t hm => own_one (h.tk t hm) hx (h1 t hm), h.len, h.cnt⟩
theorem Want.ext {B n c : Nat} {A : Option Addr} {w w' : World} {ts : List Tld} (h : Want B n w A c ts) (hx : Ext w w') : Want B n w' A c ts := ⟨own_ext h.row hx, fun t hm => (h.tk t hm).ext hx, h.len, h.cnt⟩
theorem Want.mono {B n m c : Nat} {A : Option Addr} {w : World} {ts : List Tld} (h : Want B n w A c ts) (hm : n ≤ m) : Want B m w A c ts := ⟨h.row, h.tk, fun x hx => Nat.le_trans (h.len x hx) hm, Nat.le_trans h.cnt hm⟩
/-- The law's work. -/
structure Wk where
  p : Tri
  r : Tri
  Aw : Option Addr
  cw : Nat
  ws : List Wlk
  At : Option Addr
  ct : Nat
  ts : List Tld
  Ax : Option Addr
  cx : Nat
  xs : List Tld
def Wk.cells (s : Wk) : Array Value := #[.pointer (some ⟨s.p.P 0, 0, none⟩), .pointer (some ⟨s.p.P 1, 0, none⟩), .pointer (some ⟨s.p.P 2, 0, none⟩), .pointer (some ⟨s.r.P 0, 0, none⟩), .pointer (some ⟨s.r.P 1, 0, none⟩), .pointer (some ⟨s.r.P 2, 0, none⟩), .slice s.Aw s.ws.length s.cw, .slice s.At s.ts.length s.ct, .slice s.Ax s.xs.length s.cx]
/-- The work's parts, without its own block. -/
structure Prtd (B n : Nat) (w : World) (s : Wk) : Prop where
  ps : Setsd B n w s.p
  rs : Setsr B n w s.r
  wks : Walksd B n w s.Aw s.cw s.ws
  tds : Toldd B n w s.At s.ct s.ts
  wts : Want B n w s.Ax s.cx s.xs
  wq : ∀ x ∈ s.ws, ∀ i, i < 3 → x.q ≠ s.r.P i
  wb : ∀ x ∈ s.ws, (Value.slice s.At s.ts.length s.ct).ownBlock ≠ some x.b
  tp : ∀ t ∈ s.ts, ∀ q, t.v.ownBlock = some q → ∀ i, i < 3 → (s.p.v i).ownBlock ≠ some q
  tw : ∀ t ∈ s.ts, ∀ q, t.v.ownBlock = some q → ∀ x ∈ s.ws, (Value.slice x.A x.L.length x.c).ownBlock ≠ some q
/-- The program's sets are the document's. -/
structure Wk.Ok (s : Wk) : Prop where
  eq : ∀ i, i < 3 → s.p.L i = s.r.L i
  tl : s.ts.map Tld.L = s.xs.map Tld.L
theorem Prtd.ext {B n : Nat} {w w' : World} {s : Wk} (h : Prtd B n w s) (hx : Ext w w') : Prtd B n w' s := ⟨h.ps.ext hx, h.rs.ext hx, h.wks.ext hx, h.tds.ext hx, h.wts.ext hx, h.wq, h.wb, h.tp, h.tw⟩
theorem Prtd.mono {B n m : Nat} {w : World} {s : Wk} (h : Prtd B n w s) (hm : n ≤ m) : Prtd B m w s := ⟨h.ps.mono hm, h.rs.mono hm, h.wks.mono hm, h.tds.mono hm, h.wts.mono hm, h.wq, h.wb, h.tp, h.tw⟩
structure WorkAtd (B xb n : Nat) (w : World) (s : Wk) : Prop where
  hd : w.heap[xb]? = some (.cells s.cells 120 (0, 0))
  hB : B ≤ xb
  pt : Prtd B n w s
theorem WorkAtd.ext {B xb n : Nat} {w w' : World} {s : Wk} (h : WorkAtd B xb n w s) (hx : Ext w w') : WorkAtd B xb n w' s := ⟨hx.blk h.hd, h.hB, h.pt.ext hx⟩
theorem WorkAtd.mono {B xb n m : Nat} {w : World} {s : Wk} (h : WorkAtd B xb n w s) (hm : n ≤ m) : WorkAtd B xb m w s := ⟨h.hd, h.hB, h.pt.mono hm⟩
/-- A block of another type has turned. -/
theorem Prtd.other {B n b : Nat} {w w' : World} {s : Wk} {y : Array Value} {tb : TypeId} {fr : Nat × Nat} (h : Prtd B n w s) (hx : Exc (fun q _ => q = b) w w') (hb : w.heap[b]? = some (.cells y tb fr))
    (d1 : 205 ≠ tb) (d2 : 220 ≠ tb) (d3 : 87 ≠ tb) (d4 : 26 ≠ tb) (d5 : 218 ≠ tb) (d6 : 203 ≠ tb) (d7 : 22 ≠ tb) : Prtd B n w' s :=
  ⟨h.ps.keep hx (fun i hi => blk_ne (h.ps.ps i hi).hd hb d1) (fun i hi => own_not (h.ps.ps i hi).row hb d2),
   h.rs.keep hx (fun i hi => blk_ne (h.rs.ps i hi).hd hb d3) (fun i hi => own_not (h.rs.ps i hi).row hb d4),
   h.wks.keep hx (own_not h.wks.row hb d5) (fun x hm => ⟨blk_ne (h.wks.wk x hm).hd hb d6, own_not (h.wks.wk x hm).row hb d2⟩) (fun x hm => ⟨blk_ne (h.wks.of x hm).hd hb d3, own_not (h.wks.of x hm).row hb d4⟩),
   h.tds.keep hx (own_not h.tds.row hb d6) (fun t hm => own_not (h.tds.tk t hm) hb d2),
   h.wts.keep hx (own_not h.wts.row hb d7) (fun t hm => own_not (h.wts.tk t hm) hb d4), h.wq, h.wb, h.tp, h.tw⟩
theorem Tri.put_P (s : Tri) (i : Nat) (A : Option Addr) (c : Nat) (L : List Rn) : (s.put i (s.P i) A c L).P = s.P := by
  funext j
  simp only [Tri.put]
  by_cases h : j = i
  · rw [if_pos h, h]
  · rw [if_neg h]
/-- Add or Remove of the program's set i. -/
theorem WorkAtd.setP {B xb n i c : Nat} {A : Option Addr} {L : List Rn} {w w' : World} {s : Wk} (h : WorkAtd B xb n w s) (hi : i < 3) (hx : Exc (fun q _ => q = s.p.P i) w w') (hp : SetAtd B (s.p.P i) A c w' L) (hl : L.length ≤ n)
    (hf : RowRd w.heap.size w' A c L ∨ (A = s.p.A i ∧ c = s.p.c i ∧ L = s.p.L i)) : WorkAtd B xb n w' { s with p := s.p.put i (s.p.P i) A c L } := by
  have hb := (h.pt.ps.ps i hi).hd
  have g := h.pt
  refine ⟨?_, h.hB, ⟨g.ps.put hi hx (fun j hj e => g.ps.inj j i hj hi e) (fun j hj => own_not (g.ps.ps j hj).row hb (by decide)) hp (g.ps.ge i hi) (fun j hj e => g.ps.inj j i hj hi e) hl,
    g.rs.keep hx (fun j hj => blk_ne (g.rs.ps j hj).hd hb (by decide)) (fun j hj => own_not (g.rs.ps j hj).row hb (by decide)),
    g.wks.keep hx (own_not g.wks.row hb (by decide)) (fun x hm => ⟨blk_ne (g.wks.wk x hm).hd hb (by decide), own_not (g.wks.wk x hm).row hb (by decide)⟩) (fun x hm => ⟨blk_ne (g.wks.of x hm).hd hb (by decide), own_not (g.wks.of x hm).row hb (by decide)⟩),
    g.tds.keep hx (own_not g.tds.row hb (by decide)) (fun t hm => own_not (g.tds.tk t hm) hb (by decide)),
    g.wts.keep hx (own_not g.wts.row hb (by decide)) (fun t hm => own_not (g.wts.tk t hm) hb (by decide)), g.wq, g.wb, fun t hm q hq j hj => ?_, g.tw⟩⟩
  · have e : ({ s with p := s.p.put i (s.p.P i) A c L } : Wk).cells = s.cells := by
      unfold Wk.cells
      simp only [Tri.put_P]
    rw [e]
    exact hx.blk h.hd (blk_ne h.hd hb (by decide))
  · simp only [Tri.put, Tri.v]
    by_cases e : j = i
    · simp only [if_pos e]
      rcases hf with hf | ⟨rfl, rfl, rfl⟩
      · intro he
        have h1 := (World.ownsRow.lt hf q he).1
        have h2 := (World.ownsRow.lt (g.tds.tk t hm) q hq).2
        omega
      · exact g.tp t hm q hq i hi
    · simp only [if_neg e]
      exact g.tp t hm q hq j hj
/-- Add or Remove of the document's set i. -/
theorem WorkAtd.setR {B xb n i c : Nat} {A : Option Addr} {L : List Rn} {w w' : World} {s : Wk} (h : WorkAtd B xb n w s) (hi : i < 3) (hx : Exc (fun q _ => q = s.r.P i) w w') (hp : SetAtr B (s.r.P i) A c w' L) (hl : L.length ≤ n) : WorkAtd B xb n w' { s with r := s.r.put i (s.r.P i) A c L } := by
  have hb := (h.pt.rs.ps i hi).hd
  have g := h.pt
  refine ⟨?_, h.hB, ⟨g.ps.keep hx (fun j hj => blk_ne (g.ps.ps j hj).hd hb (by decide)) (fun j hj => own_not (g.ps.ps j hj).row hb (by decide)),
    g.rs.put hi hx (fun j hj e => g.rs.inj j i hj hi e) (fun j hj => own_not (g.rs.ps j hj).row hb (by decide)) hp (g.rs.ge i hi) (fun j hj e => g.rs.inj j i hj hi e) hl,
    g.wks.keep hx (own_not g.wks.row hb (by decide)) (fun x hm => ⟨blk_ne (g.wks.wk x hm).hd hb (by decide), own_not (g.wks.wk x hm).row hb (by decide)⟩) (fun x hm => ⟨g.wq x hm i hi, own_not (g.wks.of x hm).row hb (by decide)⟩),
    g.tds.keep hx (own_not g.tds.row hb (by decide)) (fun t hm => own_not (g.tds.tk t hm) hb (by decide)),
    g.wts.keep hx (own_not g.wts.row hb (by decide)) (fun t hm => own_not (g.wts.tk t hm) hb (by decide)), ?_, g.wb, g.tp, g.tw⟩⟩
  · have e : ({ s with r := s.r.put i (s.r.P i) A c L } : Wk).cells = s.cells := by
      unfold Wk.cells
      simp only [Tri.put_P]
    rw [e]
    exact hx.blk h.hd (blk_ne h.hd hb (by decide))
  · intro x hm j hj
    simp only [Tri.put_P]
    exact g.wq x hm j hj
theorem ownBlock_len (A : Option Addr) (n m c : Nat) : (Value.slice A n c).ownBlock = (Value.slice A m c).ownBlock := by cases A <;> rfl
/-- What grows is one block, or none. -/
theorem grown_one {w w' : World} {B n N m : Nat} {e : TypeId} {v v' : Value} {xs : List Value} (ho : w.ownsRow B e n v N xs)
    (hc : (∃ A c, v = .slice A N c ∧ v' = .slice A m c ∧ w.grownBy w' v.ownBlock) ∨ (w.grownBy w' none ∧ ∀ g, v'.ownBlock = some g → w.heap.size ≤ g)) :
    (∃ b y, v.ownBlock = some b ∧ B ≤ b ∧ w.heap[b]? = some (.cells y e (0, 0)) ∧ Exc (fun q _ => q = b) w w' ∧ v'.ownBlock = some b) ∨ (Ext w w' ∧ ((∀ g, v'.ownBlock = some g → w.heap.size ≤ g))) := by
  rcases hc with ⟨A, c, rfl, rfl, hg⟩ | ⟨hg, hn⟩
  · cases hv : (Value.slice A N c).ownBlock with
    | none =>
      rw [hv] at hg
      refine .inr ⟨⟨hg.os, hg.tape, hg.output, hg.size, fun k hk => hg.block k hk (fun e => by cases e)⟩, fun g h => ?_⟩
      rw [ownBlock_len A m N, hv] at h
      cases h
    | some b =>
      obtain ⟨h1, cs, h2⟩ := own_blk ho hv
      rw [hv] at hg
      exact .inl ⟨b, cs, rfl, h1, h2, Exc.of_grown hg (fun q o h _ => by injection h with h; exact h.symm), (ownBlock_len A m N c).trans hv⟩
  · exact .inr ⟨⟨hg.os, hg.tape, hg.output, hg.size, fun k hk => hg.block k hk (fun e => by cases e)⟩, hn⟩
theorem one_exc {w w' : World} {B b : Nat} (h : Exc (fun q _ => q = b) w w') (hB : B ≤ b) : Exc (fun q _ => B ≤ q) w w' := ⟨h.os, h.tape, h.output, h.size, fun k o hk hn => h.block k o hk (fun e => hn (by omega))⟩
/-- A list more is told. -/
theorem Prtd.tell {B n : Nat} {w w3 : World} {s : Wk} {t : Tld} {v' : Value} (h : Prtd B n w s) (ho3 : w3.ownsRow B 203 1 v' (s.ts.length + 1) (s.ts.map Tld.v ++ [t.v]))
    (hc3 : (∃ A c, Value.slice s.At s.ts.length s.ct = .slice A s.ts.length c ∧ v' = .slice A (s.ts.length + 1) c ∧ w.grownBy w3 (Value.slice s.At s.ts.length s.ct).ownBlock) ∨ (w.grownBy w3 none ∧ ∀ g, v'.ownBlock = some g → w.heap.size ≤ g))
    (ht : RowRd B w t.A t.c t.L) (hbd : ∀ r ∈ t.L, Bdd r) (hl : t.L.length ≤ n) (hcn : s.ts.length + 1 ≤ n)
    (h1 : ∀ u ∈ s.ts, ∀ q, t.v.ownBlock = some q → u.v.ownBlock ≠ some q) (h2 : ∀ q, t.v.ownBlock = some q → ∀ i, i < 3 → (s.p.v i).ownBlock ≠ some q) (h3 : ∀ q, t.v.ownBlock = some q → ∀ x ∈ s.ws, (Value.slice x.A x.L.length x.c).ownBlock ≠ some q) :
    ∃ A3 c3, v' = .slice A3 (s.ts.length + 1) c3 ∧ Prtd B n w3 { s with At := A3, ct := c3, ts := s.ts ++ [t] } ∧ Exc (fun q _ => B ≤ q) w w3 := by
  obtain ⟨A3, c3, rfl⟩ := slice_of_own ho3
  have hro : w3.ownsRow B 203 1 (.slice A3 (s.ts ++ [t]).length c3) (s.ts ++ [t]).length ((s.ts ++ [t]).map Tld.v) := by
    rw [List.length_append, List.map_append]
    exact ho3
  have hsep : ∀ (i j : Nat) (a b : Tld), (s.ts ++ [t])[i]? = some a → (s.ts ++ [t])[j]? = some b → i ≠ j → ∀ q, a.v.ownBlock = some q → b.v.ownBlock ≠ some q := by
    have hcase : ∀ (i : Nat) (a : Tld), (s.ts ++ [t])[i]? = some a → (i < s.ts.length ∧ s.ts[i]? = some a) ∨ (i = s.ts.length ∧ a = t) := by
      intro i a ha
      by_cases hi : i < s.ts.length
      · rw [List.getElem?_append_left hi] at ha
        exact .inl ⟨hi, ha⟩
      · rw [List.getElem?_append_right (by omega)] at ha
        have h0 := (List.getElem?_eq_some_iff.1 ha).1
        simp only [List.length_cons, List.length_nil] at h0
        have h0' : i - s.ts.length = 0 := by omega
        rw [h0'] at ha
        simp only [List.getElem?_cons_zero, Option.some.injEq] at ha
        exact .inr ⟨by omega, ha.symm⟩
    intro i j a b ha hb hij q hq
    rcases hcase i a ha with ⟨_, e1⟩ | ⟨e0, rfl⟩
    · rcases hcase j b hb with ⟨_, e2⟩ | ⟨_, rfl⟩
      · exact h.tds.sep i j a b e1 e2 hij q hq
      · exact fun hq2 => h1 a (List.mem_of_getElem? e1) q hq2 hq
    · rcases hcase j b hb with ⟨_, e2⟩ | ⟨e3, _⟩
      · exact h1 b (List.mem_of_getElem? e2) q hq
      · omega
  have hlt := fun x hm => (Array.getElem?_eq_some_iff.1 (h.wks.wk x hm).hd).1
  have hin : ∀ u, u ∈ s.ts ++ [t] → u ∈ s.ts ∨ u = t := fun u hu => by
    rcases List.mem_append.1 hu with hu | hu
    · exact .inl hu
    · exact .inr (by simpa using hu)
  have hfin : ∀ (hps : Setsd B n w3 s.p) (hrs : Setsr B n w3 s.r) (hwk : Walksd B n w3 s.Aw s.cw s.ws) (htk : ∀ u ∈ s.ts ++ [t], RowRd B w3 u.A u.c u.L) (hwt : Want B n w3 s.Ax s.cx s.xs) (hwb : ∀ x ∈ s.ws, (Value.slice A3 (s.ts ++ [t]).length c3).ownBlock ≠ some x.b), Prtd B n w3 { s with At := A3, ct := c3, ts := s.ts ++ [t] } := fun hps hrs hwk htk hwt hwb =>
    ⟨hps, hrs, hwk, ⟨hro, htk, fun u hu => (hin u hu).elim (fun hu => h.tds.bd u hu) (fun e => by subst e; exact hbd), hsep, fun u hu => (hin u hu).elim (fun hu => h.tds.len u hu) (fun e => by subst e; exact hl), by simpa using hcn⟩, hwt, h.wq, hwb,
      fun u hu q hq i hi => (hin u hu).elim (fun hu => h.tp u hu q hq i hi) (fun e => by subst e; exact h2 q hq i hi), fun u hu q hq x hm => (hin u hu).elim (fun hu => h.tw u hu q hq x hm) (fun e => by subst e; exact h3 q hq x hm)⟩
  rcases grown_one h.tds.row hc3 with ⟨b, y, e1, hBb, hb, hx, e2⟩ | ⟨hx, hnew⟩
  · refine ⟨A3, c3, rfl, hfin (h.ps.keep hx (fun i hi => blk_ne (h.ps.ps i hi).hd hb (by decide)) (fun i hi => own_not (h.ps.ps i hi).row hb (by decide))) (h.rs.keep hx (fun i hi => blk_ne (h.rs.ps i hi).hd hb (by decide)) (fun i hi => own_not (h.rs.ps i hi).row hb (by decide)))
      (h.wks.keep hx (own_not h.wks.row hb (by decide)) (fun x hm => ⟨fun e => h.wb x hm (by rw [e1, e]), own_not (h.wks.wk x hm).row hb (by decide)⟩) (fun x hm => ⟨blk_ne (h.wks.of x hm).hd hb (by decide), own_not (h.wks.of x hm).row hb (by decide)⟩))
      (fun u hu => (hin u hu).elim (fun hu => own_one (h.tds.tk u hu) hx (own_not (h.tds.tk u hu) hb (by decide))) (fun e => by subst e; exact own_one ht hx (own_not ht hb (by decide))))
      (h.wts.keep hx (own_not h.wts.row hb (by decide)) (fun u hm => own_not (h.wts.tk u hm) hb (by decide))) (fun x hm e => ?_), one_exc hx hBb⟩
    rw [ownBlock_len A3 _ (s.ts.length + 1), e2] at e
    injection e with e
    exact h.wb x hm (by rw [e1, e])
  · refine ⟨A3, c3, rfl, hfin (h.ps.ext hx) (h.rs.ext hx) (h.wks.ext hx) (fun u hu => (hin u hu).elim (fun hu => (h.tds.tk u hu).ext hx) (fun e => by subst e; exact ht.ext hx)) (h.wts.ext hx) (fun x hm e => ?_), Exc.of_ext hx⟩
    have := hnew x.b ((ownBlock_len A3 _ _ c3).trans e)
    have := hlt x hm
    omega
/-- A list more is wanted. -/
theorem Prtd.wish {B n : Nat} {w w3 : World} {s : Wk} {t : Tld} {v' : Value} (h : Prtd B n w s) (ho3 : w3.ownsRow B 22 1 v' (s.xs.length + 1) (s.xs.map Tld.v ++ [t.v]))
    (hc3 : (∃ A c, Value.slice s.Ax s.xs.length s.cx = .slice A s.xs.length c ∧ v' = .slice A (s.xs.length + 1) c ∧ w.grownBy w3 (Value.slice s.Ax s.xs.length s.cx).ownBlock) ∨ (w.grownBy w3 none ∧ ∀ g, v'.ownBlock = some g → w.heap.size ≤ g))
    (ht : RowRr B w t.A t.c t.L) (hl : t.L.length ≤ n) (hcn : s.xs.length + 1 ≤ n) :
    ∃ A3 c3, v' = .slice A3 (s.xs.length + 1) c3 ∧ Prtd B n w3 { s with Ax := A3, cx := c3, xs := s.xs ++ [t] } ∧ Exc (fun q _ => B ≤ q) w w3 := by
  obtain ⟨A3, c3, rfl⟩ := slice_of_own ho3
  have hro : w3.ownsRow B 22 1 (.slice A3 (s.xs ++ [t]).length c3) (s.xs ++ [t]).length ((s.xs ++ [t]).map Tld.v) := by
    rw [List.length_append, List.map_append]
    exact ho3
  have hin : ∀ u, u ∈ s.xs ++ [t] → u ∈ s.xs ∨ u = t := fun u hu => by
    rcases List.mem_append.1 hu with hu | hu
    · exact .inl hu
    · exact .inr (by simpa using hu)
  have hfin : ∀ (hps : Setsd B n w3 s.p) (hrs : Setsr B n w3 s.r) (hwk : Walksd B n w3 s.Aw s.cw s.ws) (htd : Toldd B n w3 s.At s.ct s.ts) (htk : ∀ u ∈ s.xs ++ [t], RowRr B w3 u.A u.c u.L), Prtd B n w3 { s with Ax := A3, cx := c3, xs := s.xs ++ [t] } := fun hps hrs hwk htd htk =>
    ⟨hps, hrs, hwk, htd, ⟨hro, htk, fun u hu => (hin u hu).elim (fun hu => h.wts.len u hu) (fun e => by subst e; exact hl), by simpa using hcn⟩, h.wq, h.wb, h.tp, h.tw⟩
  rcases grown_one h.wts.row hc3 with ⟨b, y, e1, hBb, hb, hx, e2⟩ | ⟨hx, hnew⟩
  · exact ⟨A3, c3, rfl, hfin (h.ps.keep hx (fun i hi => blk_ne (h.ps.ps i hi).hd hb (by decide)) (fun i hi => own_not (h.ps.ps i hi).row hb (by decide))) (h.rs.keep hx (fun i hi => blk_ne (h.rs.ps i hi).hd hb (by decide)) (fun i hi => own_not (h.rs.ps i hi).row hb (by decide)))
      (h.wks.keep hx (own_not h.wks.row hb (by decide)) (fun x hm => ⟨blk_ne (h.wks.wk x hm).hd hb (by decide), own_not (h.wks.wk x hm).row hb (by decide)⟩) (fun x hm => ⟨blk_ne (h.wks.of x hm).hd hb (by decide), own_not (h.wks.of x hm).row hb (by decide)⟩))
      (h.tds.keep hx (own_not h.tds.row hb (by decide)) (fun u hm => own_not (h.tds.tk u hm) hb (by decide)))
      (fun u hu => (hin u hu).elim (fun hu => own_one (h.wts.tk u hu) hx (own_not (h.wts.tk u hu) hb (by decide))) (fun e => by subst e; exact own_one ht hx (own_not ht hb (by decide)))), one_exc hx hBb⟩
  · exact ⟨A3, c3, rfl, hfin (h.ps.ext hx) (h.rs.ext hx) (h.wks.ext hx) (h.tds.ext hx) (fun u hu => (hin u hu).elim (fun hu => (h.wts.tk u hu).ext hx) (fun e => by subst e; exact ht.ext hx)), Exc.of_ext hx⟩
/-- A walk more is kept. -/
theorem Prtd.hold {B n : Nat} {w w3 : World} {s : Wk} {t : Wlk} {v' : Value} (h : Prtd B n w s) (ho3 : w3.ownsRow B 218 2 v' (s.ws.length + 1) (s.ws.flatMap Wlk.valsd ++ t.valsd))
    (hc3 : (∃ A c, Value.slice s.Aw s.ws.length s.cw = .slice A s.ws.length c ∧ v' = .slice A (s.ws.length + 1) c ∧ w.grownBy w3 (Value.slice s.Aw s.ws.length s.cw).ownBlock) ∨ (w.grownBy w3 none ∧ ∀ g, v'.ownBlock = some g → w.heap.size ≤ g))
    (ht1 : WalkAtd B t.b t.A t.c w t.L) (ht2 : SetAtr B t.q t.A' t.c' w t.L) (hl : t.L.length ≤ n) (hcn : s.ws.length + 1 ≤ n) (h1 : ∀ i, i < 3 → t.q ≠ s.r.P i) (h2 : (Value.slice s.At s.ts.length s.ct).ownBlock ≠ some t.b) (h3 : ∀ u ∈ s.ts, ∀ q, u.v.ownBlock = some q → (Value.slice t.A t.L.length t.c).ownBlock ≠ some q) :
    ∃ A3 c3, v' = .slice A3 (s.ws.length + 1) c3 ∧ Prtd B n w3 { s with Aw := A3, cw := c3, ws := s.ws ++ [t] } ∧ Exc (fun q _ => B ≤ q) w w3 := by
  obtain ⟨A3, c3, rfl⟩ := slice_of_own ho3
  have hro : w3.ownsRow B 218 2 (.slice A3 (s.ws ++ [t]).length c3) (s.ws ++ [t]).length ((s.ws ++ [t]).flatMap Wlk.valsd) := by
    rw [List.length_append, List.flatMap_append]
    simpa using ho3
  have hin : ∀ u, u ∈ s.ws ++ [t] → u ∈ s.ws ∨ u = t := fun u hu => by
    rcases List.mem_append.1 hu with hu | hu
    · exact .inl hu
    · exact .inr (by simpa using hu)
  have hfin : ∀ (hps : Setsd B n w3 s.p) (hrs : Setsr B n w3 s.r) (hwk : ∀ u ∈ s.ws ++ [t], WalkAtd B u.b u.A u.c w3 u.L) (hof : ∀ u ∈ s.ws ++ [t], SetAtr B u.q u.A' u.c' w3 u.L) (htd : Toldd B n w3 s.At s.ct s.ts) (hwt : Want B n w3 s.Ax s.cx s.xs), Prtd B n w3 { s with Aw := A3, cw := c3, ws := s.ws ++ [t] } := fun hps hrs hwk hof htd hwt =>
    ⟨hps, hrs, ⟨hro, hwk, hof, fun u hu => (hin u hu).elim (fun hu => h.wks.len u hu) (fun e => by subst e; exact hl), by simpa using hcn⟩, htd, hwt, fun u hu i hi => (hin u hu).elim (fun hu => h.wq u hu i hi) (fun e => by subst e; exact h1 i hi), fun u hu => (hin u hu).elim (fun hu => h.wb u hu) (fun e => by subst e; exact h2), h.tp,
      fun a ha q hq u hu => (hin u hu).elim (fun hu => h.tw a ha q hq u hu) (fun e => by subst e; exact h3 a ha q hq)⟩
  rcases grown_one h.wks.row hc3 with ⟨b, y, e1, hBb, hb, hx, e2⟩ | ⟨hx, hnew⟩
  · exact ⟨A3, c3, rfl, hfin (h.ps.keep hx (fun i hi => blk_ne (h.ps.ps i hi).hd hb (by decide)) (fun i hi => own_not (h.ps.ps i hi).row hb (by decide))) (h.rs.keep hx (fun i hi => blk_ne (h.rs.ps i hi).hd hb (by decide)) (fun i hi => own_not (h.rs.ps i hi).row hb (by decide)))
      (fun u hu => (hin u hu).elim (fun hu => (h.wks.wk u hu).one hx (blk_ne (h.wks.wk u hu).hd hb (by decide)) (own_not (h.wks.wk u hu).row hb (by decide))) (fun e => by subst e; exact ht1.one hx (blk_ne ht1.hd hb (by decide)) (own_not ht1.row hb (by decide))))
      (fun u hu => (hin u hu).elim (fun hu => (h.wks.of u hu).one hx (blk_ne (h.wks.of u hu).hd hb (by decide)) (own_not (h.wks.of u hu).row hb (by decide))) (fun e => by subst e; exact ht2.one hx (blk_ne ht2.hd hb (by decide)) (own_not ht2.row hb (by decide))))
      (h.tds.keep hx (own_not h.tds.row hb (by decide)) (fun u hm => own_not (h.tds.tk u hm) hb (by decide)))
      (h.wts.keep hx (own_not h.wts.row hb (by decide)) (fun u hm => own_not (h.wts.tk u hm) hb (by decide))), one_exc hx hBb⟩
  · exact ⟨A3, c3, rfl, hfin (h.ps.ext hx) (h.rs.ext hx) (fun u hu => (hin u hu).elim (fun hu => (h.wks.wk u hu).ext hx) (fun e => by subst e; exact ht1.ext hx)) (fun u hu => (hin u hu).elim (fun hu => (h.wks.of u hu).ext hx) (fun e => by subst e; exact ht2.ext hx)) (h.tds.ext hx) (h.wts.ext hx), Exc.of_ext hx⟩
theorem exc_none (w : World) : Exc (fun q _ => q = w.heap.size) w w := exc_refl _ _
/-- Another set in place i. -/
theorem Prtd.newP {B n i p c : Nat} {A : Option Addr} {L : List Rn} {w : World} {s : Wk} (h : Prtd B n w s) (hi : i < 3) (hp : SetAtd B p A c w L) (hB : B ≤ p) (hn : ∀ j, j < 3 → j ≠ i → s.p.P j ≠ p) (hl : L.length ≤ n)
    (ht : ∀ t ∈ s.ts, ∀ q, t.v.ownBlock = some q → (Value.slice A L.length c).ownBlock ≠ some q) : Prtd B n w { s with p := s.p.put i p A c L } := by
  refine ⟨h.ps.put hi (exc_none w) (fun j hj _ => ?_) (fun j hj e => ?_) hp hB hn hl, h.rs, h.wks, h.tds, h.wts, h.wq, h.wb, fun t hm q hq j hj => ?_, h.tw⟩
  · have := (Array.getElem?_eq_some_iff.1 (h.ps.ps j hj).hd).1; omega
  · have := (World.ownsRow.lt (h.ps.ps j hj).row _ e).2; omega
  · simp only [Tri.put, Tri.v]
    by_cases e : j = i
    · simp only [if_pos e]; exact ht t hm q hq
    · simp only [if_neg e]; exact h.tp t hm q hq j hj
theorem Prtd.newR {B n i p c : Nat} {A : Option Addr} {L : List Rn} {w : World} {s : Wk} (h : Prtd B n w s) (hi : i < 3) (hp : SetAtr B p A c w L) (hB : B ≤ p) (hn : ∀ j, j < 3 → j ≠ i → s.r.P j ≠ p) (hl : L.length ≤ n)
    (hq : ∀ x ∈ s.ws, x.q ≠ p) : Prtd B n w { s with r := s.r.put i p A c L } := by
  refine ⟨h.ps, h.rs.put hi (exc_none w) (fun j hj _ => ?_) (fun j hj e => ?_) hp hB hn hl, h.wks, h.tds, h.wts, fun x hm j hj => ?_, h.wb, h.tp, h.tw⟩
  · have := (Array.getElem?_eq_some_iff.1 (h.rs.ps j hj).hd).1; omega
  · have := (World.ownsRow.lt (h.rs.ps j hj).row _ e).2; omega
  · simp only [Tri.put]
    by_cases e : j = i
    · simp only [if_pos e]; exact hq x hm
    · simp only [if_neg e]; exact h.wq x hm j hj
end Go.Proofs.Ytffapgemacbdjaa
