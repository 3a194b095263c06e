/- Layer 5, at uint16: sets made anew by the law's script: renew. No condition but the sizes. -/
import Derived.Test.YtffapgemacbdjaaRlbd
import Derived.Deep.Cut
import Derived.Deep.CutRange
import Derived.Deep.CutBlock
namespace Go.Proofs.Ytffapgemacbdjaa
open Go.RowKit Go.Proofs Go.Shelf
set_option linter.unusedVariables false
attribute [local go_sem] Oper.semAt_some
theorem flat_setd : ∀ (L : List Rn) (k : Nat) (y : Rn), k < L.length → (L.flatMap rcd).take (k * 2) ++ rcd y ++ (L.flatMap rcd).drop ((k + 1) * 2) = (L.set k y).flatMap rcd
  | [], k, y, h => by simp at h
  | x :: L, 0, y, h => by simp [List.flatMap_cons]
  | x :: L, k + 1, y, h => by
    have ih := flat_setd L k y (by simpa using h)
    rw [List.set_cons_succ, List.flatMap_cons, List.flatMap_cons, ← ih]
    rw [show (k + 1) * 2 = k * 2 + 2 by omega, show (k + 1 + 1) * 2 = (k * 2 + 2) + 2 by omega]
    simp
theorem flat_taked : ∀ (L : List Rn) (n : Nat), (L.flatMap rcd).take (n * 2) = (L.take n).flatMap rcd
  | [], n => by simp
  | x :: L, 0 => by simp
  | x :: L, n + 1 => by
    rw [List.take_succ_cons, List.flatMap_cons, List.flatMap_cons, ← flat_taked L n, show (n + 1) * 2 = n * 2 + 2 by omega]
    simp
theorem made_const (z : Array Value) (v : Value) (hz : ∀ i, i < z.size → z[i]? = some v) (hp : 0 < z.size) (n : Nat) : (madeCells z n).toList = List.replicate n v := by
  apply List.ext_getElem?
  intro i
  unfold madeCells
  simp only [Array.toList_map, Array.toList_range, List.getElem?_map]
  by_cases hi : i < n
  · rw [List.getElem?_range hi, List.getElem?_replicate, if_pos hi]
    have hm : i % z.size < z.size := Nat.mod_lt _ hp
    have := hz _ hm
    simp only [Option.map_some]
    rw [Array.getElem!_eq_getD, Array.getD_eq_getD_getElem?, this]
    rfl
  · rw [List.getElem?_eq_none (by simpa using hi), List.getElem?_replicate, if_neg hi]
    rfl
/-- A row of N runs, all its room. -/
structure RowNd (B : Nat) (w : World) (g N : Nat) (L : List Rn) : Prop where
  own : w.ownsRow B 220 2 (.slice (some ⟨g, 0, none⟩) N N) N (L.flatMap rcd)
  len : L.length = N
/-- A row of N numbers, all its room. -/
structure RowMd (B : Nat) (w : World) (g N : Nat) (l : List Int) : Prop where
  own : w.ownsRow B 51 1 (.slice (some ⟨g, 0, none⟩) N N) N (l.map (Value.int .u16))
  len : l.length = N
theorem RowNd.ext {B g N : Nat} {w w' : World} {L : List Rn} (h : RowNd B w g N L) (he : Ext w w') : RowNd B w' g N L := ⟨own_ext h.own he, h.len⟩
theorem RowMd.ext {B g N : Nat} {w w' : World} {l : List Int} (h : RowMd B w g N l) (he : Ext w w') : RowMd B w' g N l := ⟨own_ext h.own he, h.len⟩
theorem RowNd.one {B g N b : Nat} {w w' : World} {L : List Rn} (h : RowNd B w g N L) (he : Exc (fun q _ => q = b) w w') (hb : g ≠ b) : RowNd B w' g N L := ⟨own_one h.own he (fun e => hb (by injection e)), h.len⟩
theorem RowMd.one {B g N b : Nat} {w w' : World} {l : List Int} (h : RowMd B w g N l) (he : Exc (fun q _ => q = b) w w') (hb : g ≠ b) : RowMd B w' g N l := ⟨own_one h.own he (fun e => hb (by injection e)), h.len⟩
theorem RowNd.at {B g N k : Nat} {w : World} {L : List Rn} {r : Rn} (h : RowNd B w g N L) (hr : L[k]? = some r) : w.cell? ⟨g, k * 2, none⟩ = some (.int .u16 r.lo) ∧ w.cell? ⟨g, k * 2 + 1, none⟩ = some (.int .u16 r.hi) := by
  have hk := (List.getElem?_eq_some_iff.1 hr).1
  have hl := h.len
  obtain ⟨a1, a2⟩ := ratd L k r hr
  exact ⟨by rw [World.ownsRow.cellAt h.own _ (by omega), a1], by rw [World.ownsRow.cellAt h.own _ (by omega), a2]⟩
theorem RowMd.at {B g N k : Nat} {w : World} {l : List Int} {z : Int} (h : RowMd B w g N l) (hz : l[k]? = some z) : w.cell? ⟨g, k, none⟩ = some (.int .u16 z) ∧ w.frozen? ⟨g, k, none⟩ = false := by
  have hk := (List.getElem?_eq_some_iff.1 hz).1
  have hl := h.len
  refine ⟨?_, World.ownsRow.frozenAt h.own k⟩
  rw [World.ownsRow.cellAt h.own _ (by omega), List.getElem?_map, hz]
  rfl
theorem RowNd.set {B g N k : Nat} {w w' : World} {L : List Rn} {r : Rn} (h : RowNd B w g N L) (hk : k < N) (ho : w'.ownsRow B 220 2 (.slice (some ⟨g, 0, none⟩) N N) N ((L.flatMap rcd).take (k * 2) ++ rcd r ++ (L.flatMap rcd).drop ((k + 1) * 2))) : RowNd B w' g N (L.set k r) :=
  ⟨by rw [← flat_setd L k r (by rw [h.len]; exact hk)]; exact ho, by rw [List.length_set, h.len]⟩
theorem RowMd.set {B g N k : Nat} {w : World} {l : List Int} (h : RowMd B w g N l) (z : Int) : RowMd B (w.setCell ⟨g, k, none⟩ (.int .u16 z)) g N (l.set k z) ∧ w.grownBy (w.setCell ⟨g, k, none⟩ (.int .u16 z)) (some g) := by
  have hs := World.ownsRow.stored h.own k (.int .u16 z)
  refine ⟨⟨?_, by rw [List.length_set, h.len]⟩, hs.2⟩
  have := hs.1
  rw [List.map_set]
  exact this
theorem infoMd : (Try.prog.info? 51).map (fun i => (i.zero, i.size)) = some (some (.int .u16 0), 1) := by kernel_rfl
/-- A run as the kind has it. -/
def cvd (r : Rn) : Rn := ⟨IntKind.wrap .u16 r.lo, IntKind.wrap .u16 r.hi⟩
theorem cv_bdd (r : Rn) : Bdd (cvd r) := ⟨kbdd r.lo, kbdd r.hi⟩
theorem flat_repd : ∀ k : Nat, (List.replicate k (⟨0, 0⟩ : Rn)).flatMap rcd = List.replicate (k * 2) (Value.int .u16 0)
  | 0 => rfl
  | k + 1 => by
    rw [List.replicate_succ, List.flatMap_cons, flat_repd k, show (k + 1) * 2 = k * 2 + 1 + 1 by omega, List.replicate_succ, List.replicate_succ]
    rfl
theorem store_rund (r : Rn) : ∀ u ∈ rcd r, u.oneCell' = true := fun u hu => roned [r] u (by simpa using hu)
def room : Rn := ⟨77, 78⟩
theorem room_bdd : Bdd room := ⟨⟨by decide, by decide⟩, by decide, by decide⟩
/-- Both rows, while their ends are laid. -/
structure Endsd (B ib lb m : Nat) (V : World) (IN : List Rn) (LO : List Int) : Prop where
  a : RowNd B V ib (m + 2) IN
  b : RowMd B V lb (m + 2) LO
theorem Endsd.ext {B ib lb m : Nat} {V V' : World} {IN : List Rn} {LO : List Int} (h : Endsd B ib lb m V IN LO) (he : Ext V V') : Endsd B ib lb m V' IN LO := ⟨h.a.ext he, h.b.ext he⟩
def Opn.cut (o : Opn) (m : Nat) : Array Value := #[.int .i64 o.kind, .int .i64 o.who, .int .i64 o.to, .int .i64 o.lo, .int .i64 o.hi, .int .i64 o.k, .slice o.A m o.c]
/-- The rows that the law fills. -/
structure Filld (B ib lb ob nb m : Nat) (o : Opn) (w : World) (IN : List Rn) (LO : List Int) : Prop where
  a : RowNd B w ib (m + 2) IN
  b : RowMd B w lb (m + 2) LO
  o : w.heap[ob]? = some (.cells (o.cut m) 89 (0, 0))
  n : SetAtr B nb none 0 w []
  bd : ∀ r ∈ IN, Bdd r
theorem Opn.In.at {B : Nat} {w : World} {o : Opn} (h : o.In B w) {i : Nat} {r : Rn} (hr : o.L[i]? = some r) : ∃ b off, o.A = some ⟨b, off, none⟩ ∧ b < B ∧ ∀ W, Below B w W → W.cell? ⟨b, off + i * 2, none⟩ = some (.int .i64 r.lo) ∧ W.cell? ⟨b, off + i * 2 + 1, none⟩ = some (.int .i64 r.hi) := by
  have hi := (List.getElem?_eq_some_iff.1 hr).1
  obtain ⟨b, off, hA, hb, hc⟩ := h.rd (by omega)
  exact ⟨b, off, hA, hb, fun W hW => ⟨(hW.cell (p := ⟨b, off + i * 2, none⟩) hb).trans (hc i r hr).1, (hW.cell (p := ⟨b, off + i * 2 + 1, none⟩) hb).trans (hc i r hr).2⟩⟩
theorem wk_setp (s : Wk) {i : Nat} (hi : i < 3) (q : Nat) (A : Option Addr) (c : Nat) (L : List Rn) : s.cells.setIfInBounds i (.pointer (some ⟨q, 0, none⟩)) = ({ s with p := s.p.put i q A c L } : Wk).cells := by
  match i, hi with
  | 0, _ => rfl
  | 1, _ => rfl
  | 2, _ => rfl
theorem wk_setr (s : Wk) {i : Nat} (hi : i < 3) (q : Nat) (A : Option Addr) (c : Nat) (L : List Rn) : s.cells.setIfInBounds (3 + i) (.pointer (some ⟨q, 0, none⟩)) = ({ s with r := s.r.put i q A c L } : Wk).cells := by
  match i, hi with
  | 0, _ => rfl
  | 1, _ => rfl
  | 2, _ => rfl
/-- A set of the document's that is not the work's has turned. -/
theorem WorkAtd.refset {B xb n b : Nat} {w w' : World} {s : Wk} {y : Array Value} {fr : Nat × Nat} (h : WorkAtd B xb n w s) (hx : Exc (fun q _ => q = b) w w') (hb : w.heap[b]? = some (.cells y 87 fr)) (h1 : ∀ i, i < 3 → s.r.P i ≠ b) (h2 : ∀ x ∈ s.ws, x.q ≠ b) : WorkAtd B xb n w' s := by
  have g := h.pt
  exact ⟨hx.blk h.hd (blk_ne h.hd hb (by decide)), h.hB, ⟨g.ps.keep hx (fun j hj => blk_ne (g.ps.ps j hj).hd hb (by decide)) (fun j hj => own_not (g.ps.ps j hj).row hb (by decide)),
    g.rs.keep hx h1 (fun j hj => own_not (g.rs.ps j hj).row hb (by decide)),
    g.wks.keep hx (own_not g.wks.row hb (by decide)) (fun x hm => ⟨blk_ne (g.wks.wk x hm).hd hb (by decide), own_not (g.wks.wk x hm).row hb (by decide)⟩) (fun x hm => ⟨h2 x hm, own_not (g.wks.of x hm).row hb (by decide)⟩),
    g.tds.keep hx (own_not g.tds.row hb (by decide)) (fun t hm => own_not (g.tds.tk t hm) hb (by decide)),
    g.wts.keep hx (own_not g.wts.row hb (by decide)) (fun t hm => own_not (g.wts.tk t hm) hb (by decide)), g.wq, g.wb, g.tp, g.tw⟩⟩
theorem eqlRd (x y : Rn) (w : World) : (binOp .eql 220 (.agg #[.int .u16 x.lo, .int .u16 x.hi]) (.agg #[.int .u16 y.lo, .int .u16 y.hi])).run Try.prog w = .ok (.bool (decide (x = y))) w := by
  have h := eqRd x y w
  have h2 : (Op.equal 220 (.agg #[.int .u16 x.lo, .int .u16 x.hi]) (.agg #[.int .u16 y.lo, .int .u16 y.hi])).run Try.prog w = .ok (decide (x = y)) w := h
  simp only [binOp]
  simp [h2]
theorem own_ty {w : World} {B N g c n : Nat} {e : TypeId} {xs : List Value} (h : w.ownsRow B e n (.slice (some ⟨g, 0, none⟩) N c) N xs) : ∃ y, w.heap[g]? = some (.cells y e (0, 0)) := by
  obtain ⟨_, cs, hg⟩ := own_blk h rfl
  exact ⟨cs, hg⟩
theorem own_ty1 {w : World} {B N g c n : Nat} {e : TypeId} {xs : List Value} (h : w.ownsRow B e n (.slice (some ⟨g, 0, none⟩) N c) N xs) : ∃ y, w.heap[g]? = some (.cells y e (0, 0)) := own_ty h
/-- A row of runs that is not the work's has turned. -/
theorem WorkAtd.rowone {B xb n b : Nat} {w w' : World} {s : Wk} (h : WorkAtd B xb n w s) (hx : Exc (fun q _ => q = b) w w') (hb : ∃ y, w.heap[b]? = some (.cells y 220 (0, 0))) (h1 : ∀ i, i < 3 → (s.p.v i).ownBlock ≠ some b) (h2 : ∀ t ∈ s.ts, t.v.ownBlock ≠ some b) (h3 : ∀ x ∈ s.ws, (Value.slice x.A x.L.length x.c).ownBlock ≠ some b) : WorkAtd B xb n w' s := by
  obtain ⟨y, hb⟩ := hb
  have g := h.pt
  exact ⟨hx.blk h.hd (blk_ne h.hd hb (by decide)), h.hB, ⟨g.ps.keep hx (fun j hj => blk_ne (g.ps.ps j hj).hd hb (by decide)) h1,
    g.rs.keep hx (fun j hj => blk_ne (g.rs.ps j hj).hd hb (by decide)) (fun j hj => own_not (g.rs.ps j hj).row hb (by decide)),
    g.wks.keep hx (own_not g.wks.row hb (by decide)) (fun x hm => ⟨blk_ne (g.wks.wk x hm).hd hb (by decide), h3 x hm⟩) (fun x hm => ⟨blk_ne (g.wks.of x hm).hd hb (by decide), own_not (g.wks.of x hm).row hb (by decide)⟩),
    g.tds.keep hx (own_not g.tds.row hb (by decide)) h2,
    g.wts.keep hx (own_not g.wts.row hb (by decide)) (fun t hm => own_not (g.wts.tk t hm) hb (by decide)), g.wq, g.wb, g.tp, g.tw⟩⟩
/-- A set of the program's that has been made. -/
def NewPd (B N0 : Nat) (L : List Rn) (z : Value) (V : World) : Prop := ∃ q A' c', z = .pointer (some ⟨q, 0, none⟩) ∧ N0 ≤ q ∧ SetAtd B q A' c' V L ∧ ∀ b, (Value.slice A' L.length c').ownBlock = some b → N0 ≤ b
theorem NewPd.lasts (B N0 xb : Nat) (A : Option Addr) (n c : Nat) (L : List Rn) (z : Value) : Lasts (Exc (DK N0 xb A n c)) (NewPd B N0 L z) := fun w' w2 ⟨b, A', c', h1, h2, h3, h4⟩ he => ⟨b, A', c', h1, h2, ⟨he.blk h3.hd (fun e => by have := e.1; omega), own_out h3.row he (fun q _ hq e => by have := h4 q hq; have := e.1; omega), h3.wf, h3.bd⟩, h4⟩
def PutPd (B xb n N0 : Nat) (s : Wk) (who : Nat) (L : List Rn) (V : World) : Prop := ∃ q A c, WorkAtd B xb n V { s with p := s.p.put who q A c L } ∧ ∀ b, (Value.slice A L.length c).ownBlock = some b → N0 ≤ b
theorem PutPd.lasts (B xb n N0 : Nat) (s : Wk) (who : Nat) (L : List Rn) : Lasts Ext (PutPd B xb n N0 s who L) := fun w' w2 ⟨q, A, c, h, h2⟩ he => ⟨q, A, c, h.ext he, h2⟩
/-- The store of it into the work. -/
theorem putP_stored {B xb n N0 who q : Nat} {L : List Rn} {s : Wk} {w : World} (h : WorkAtd B xb n w s) (hw3 : who < 3) (hN : NewPd B N0 L (.pointer (some ⟨q, 0, none⟩)) w) (hB : B ≤ N0) (hl : L.length ≤ n) (hlp : ∀ i, i < 3 → s.p.P i < N0) (hlt : ∀ t ∈ s.ts, ∀ b, t.v.ownBlock = some b → b < N0) :
    PutPd B xb n N0 s who L (w.setCell ⟨xb, who, none⟩ (.pointer (some ⟨q, 0, none⟩))) := by
  obtain ⟨q', A, c, e, hq, hS, ho⟩ := hN
  have hqq : q = q' := by simpa using e
  subst hqq
  refine ⟨q, A, c, WorkAtd.stored h.hd h.hB (h.pt.newP hw3 hS (by omega) (fun j hj _ => ?_) hl (fun t ht b hb e => ?_)) (wk_setp s hw3 q A c L), ho⟩
  · have := hlp j hj; omega
  · have h1 := hlt t ht b hb
    have h2 := ho b e
    omega
/-- What holds where the three ways meet. -/
structure MidRd (B xb n ib lb ob rb m who : Nat) (o : Opn) (s : Wk) (w : World) (IN : List Rn) (LO : List Int) (nq q9 : Nat) (A9 An : Option Addr) (c9 cn : Nat) (L9 : List Rn) (v : World) : Prop where
  h9 : WorkAtd B xb (n + 1) v { s with p := s.p.put who q9 A9 c9 L9 }
  hn9 : SetAtr B nq An cn v L9
  hl9 : L9.length ≤ n + 1
  hnq : w.heap.size ≤ nq
  ra : RowNd w.heap.size v ib (m + 2) IN
  rm : RowMd w.heap.size v lb (m + 2) LO
  ro : v.heap[ob]? = some (.cells (o.cut m) 89 (0, 0))
  rr : v.heap[rb]? = some (.cells #[.int .u16 77, .int .u16 78] 220 (0, 0))
  hib : ∀ i, i < 3 → ((s.p.put who q9 A9 c9 L9).v i).ownBlock ≠ some ib
  hX : Exc (DB B) w v
set_option maxRecDepth 100000 in
set_option maxHeartbeats 8000000 in
theorem renew_anyd {B xb n : Nat} {s : Wk} {o : Opn} {w : World} (h : WorkAtd B xb n w s) (hok : s.Ok) (hn1 : 102 ≤ n) (hn2 : n ≤ 1000) (ho : o.In B w) :
    Calls Try.prog 115 #[.pointer (some ⟨xb, 0, none⟩), .agg o.cells] w fun e w' => ∃ s', e = .returned (.bool true) ∧ WorkAtd B xb (n + 1) w' s' ∧ s'.Ok ∧ Exc (DB B) w w' := by
  obtain ⟨i0, hi0, hz0, hzz1, hzz2⟩ := info_parts infoRd
  obtain ⟨who, hwho⟩ : ∃ i, slotN o.who = i := ⟨_, rfl⟩
  obtain ⟨tw, hto⟩ : ∃ i, slotN o.to = i := ⟨_, rfl⟩
  have hw3 : who < 3 := by rw [← hwho]; exact (slotN_lt _).1
  have ht3 : tw < 3 := by rw [← hto]; exact (slotN_lt _).1
  obtain ⟨m, hm⟩ : ∃ m, min o.L.length 100 = m := ⟨_, rfl⟩
  have hm100 : m ≤ 100 := by omega
  have hmL : m ≤ o.L.length := by omega
  have hmc : m ≤ o.c := by have := ho.le; omega
  have hcap := ho.cap
  have hole := ho.le
  have hmn : (if (100 : Int) < (o.L.length : Int) then 100 else (o.L.length : Int)) = (m : Int) := by split <;> omega
  have hxlt := (Array.getElem?_eq_some_iff.1 h.hd).1
  have hBw : B ≤ w.heap.size := by have := h.hB; omega
  obtain ⟨i1, hi1, hzi1, hsi1, hbi1⟩ : ∃ i1, Try.prog.info? 51 = some i1 ∧ i1.zero = some (.int .u16 0) ∧ i1.size = 1 ∧ i1.bytes ≤ 8 := ⟨_, rfl, by kernel_rfl, by kernel_rfl, by decide +kernel⟩
  clear hm
  go_enter Try.func115, Try.ntmps115
  go_wp2
  refine wp_cut (fun W' => Ext w W' ∧ W'.heap[w.heap.size]? = some (.cells o.cells 89 (0, 0))) ⟨ext_alloc _ _, heap_alloc_new _ _⟩ ?_
  rintro w1 ⟨hE1, hob⟩
  have o1 : ∀ W, Ext w1 W → W.cell? ⟨w.heap.size, 1, none⟩ = some (.int .i64 o.who) := fun W h => cell_of_row _ _ _ _ _ _ (h.blk hob)
  have o2 : ∀ W, Ext w1 W → W.cell? ⟨w.heap.size, 2, none⟩ = some (.int .i64 o.to) := fun W h => cell_of_row _ _ _ _ _ _ (h.blk hob)
  refine wp_region_rg Ext rel_ext (fun _ => True) [0, 1, 2, 3, 4, 5, 6, 7] (fun i => match i with | 2 => some fun _ z _ => z = .int .i64 who | 5 => some fun _ z _ => z = .int .i64 tw | _ => none) (fun _ => none) (fun _ => false) (by kernel_rfl) (by kernel_rfl) (fun _ _ _ _ => trivial) trivial (fun W N hW _ hN => ?_)
  have hEW := hW
  repeat (first | (apply wpR_one; (case ho => (simp only [List.getElem?_toArray, List.getElem?_cons_succ, List.getElem?_cons_zero]; try exact rfl)); (case hw => rfl); (case hl => rfl); (case hsp => rfl); (case he => rfl); (case hv => (intro w' hw'; (try (have hw2 := Ext.trans hEW hw')); (try (have hw3 := Exc.trans hEW hw')); (try (have hw4 := Exk.trans hEW hw')); (try (have hw5 := Mrk.trans hEW hw')); go_simp; exact rfl)); (case hw0 => (first | exact Below.refl _ _ | exact Exc.of_ext (Below.refl _ _) | exact Exk.of_ext (Below.refl _ _) | exact Mrk.of_ext (Below.refl _ _))); simp only [Act.put, List.setIfInBounds_toArray, List.set_cons_succ, List.set_cons_zero]) | (apply wpR_early; (case ho => (simp only [List.getElem?_toArray, List.getElem?_cons_succ, List.getElem?_cons_zero]; try exact rfl)); (case hw => rfl); (case hl => rfl); (case hsp => rfl); (case he => rfl); (case hv => (intro w' hw'; (try have hw2 := Ext.trans hEW hw'); go_simp; exact rfl)); simp only [Act.put, List.setIfInBounds_toArray, List.set_cons_succ, List.set_cons_zero]) | (apply wpR_pass; (case ho => (simp only [List.getElem?_toArray, List.getElem?_cons_succ, List.getElem?_cons_zero]; try exact rfl)); (case hw => rfl); (case hl => rfl); simp only [Act.put, List.setIfInBounds_toArray, List.set_cons_succ, List.set_cons_zero]))
  refine wpR_new (by ((simp only [List.getElem?_toArray, List.getElem?_cons_succ, List.getElem?_cons_zero]; try exact rfl))) _ rfl rfl rfl (fun V v => Lasts.pure) (fun V V' h => rfl) (fun w' hw' hK => ?_) (fun z hz => ?_)
  · unfold opAt; go_simp; refine upAt_enter ?_
    refine slot_any.mono ?_
    rintro e w2 ⟨rfl, rfl⟩
    exact ⟨_, rfl, Below.refl _ _, by rw [hwho]⟩
  obtain ⟨_, _, _, rfl⟩ := hz
  simp only [Act.put, List.setIfInBounds_toArray, List.set_cons_succ, List.set_cons_zero]
  repeat (first | (apply wpR_one; (case ho => (simp only [List.getElem?_toArray, List.getElem?_cons_succ, List.getElem?_cons_zero]; try exact rfl)); (case hw => rfl); (case hl => rfl); (case hsp => rfl); (case he => rfl); (case hv => (intro w' hw'; (try (have hw2 := Ext.trans hEW hw')); (try (have hw3 := Exc.trans hEW hw')); (try (have hw4 := Exk.trans hEW hw')); (try (have hw5 := Mrk.trans hEW hw')); go_simp; exact rfl)); (case hw0 => (first | exact Below.refl _ _ | exact Exc.of_ext (Below.refl _ _) | exact Exk.of_ext (Below.refl _ _) | exact Mrk.of_ext (Below.refl _ _))); simp only [Act.put, List.setIfInBounds_toArray, List.set_cons_succ, List.set_cons_zero]) | (apply wpR_early; (case ho => (simp only [List.getElem?_toArray, List.getElem?_cons_succ, List.getElem?_cons_zero]; try exact rfl)); (case hw => rfl); (case hl => rfl); (case hsp => rfl); (case he => rfl); (case hv => (intro w' hw'; (try have hw2 := Ext.trans hEW hw'); go_simp; exact rfl)); simp only [Act.put, List.setIfInBounds_toArray, List.set_cons_succ, List.set_cons_zero]) | (apply wpR_pass; (case ho => (simp only [List.getElem?_toArray, List.getElem?_cons_succ, List.getElem?_cons_zero]; try exact rfl)); (case hw => rfl); (case hl => rfl); simp only [Act.put, List.setIfInBounds_toArray, List.set_cons_succ, List.set_cons_zero]))
  refine wpR_new (by ((simp only [List.getElem?_toArray, List.getElem?_cons_succ, List.getElem?_cons_zero]; try exact rfl))) _ rfl rfl rfl (fun V v => Lasts.pure) (fun V V' h => rfl) (fun w' hw' hK => ?_) (fun z hz => ?_)
  · unfold opAt; go_simp; refine upAt_enter ?_
    refine slot_any.mono ?_
    rintro e w2 ⟨rfl, rfl⟩
    exact ⟨_, rfl, Below.refl _ _, by rw [hto]⟩
  obtain ⟨_, _, _, rfl⟩ := hz
  simp only [Act.put, List.setIfInBounds_toArray, List.set_cons_succ, List.set_cons_zero]
  repeat (first | (apply wpR_one; (case ho => (simp only [List.getElem?_toArray, List.getElem?_cons_succ, List.getElem?_cons_zero]; try exact rfl)); (case hw => rfl); (case hl => rfl); (case hsp => rfl); (case he => rfl); (case hv => (intro w' hw'; (try (have hw2 := Ext.trans hEW hw')); (try (have hw3 := Exc.trans hEW hw')); (try (have hw4 := Exk.trans hEW hw')); (try (have hw5 := Mrk.trans hEW hw')); go_simp; exact rfl)); (case hw0 => (first | exact Below.refl _ _ | exact Exc.of_ext (Below.refl _ _) | exact Exk.of_ext (Below.refl _ _) | exact Mrk.of_ext (Below.refl _ _))); simp only [Act.put, List.setIfInBounds_toArray, List.set_cons_succ, List.set_cons_zero]) | (apply wpR_early; (case ho => (simp only [List.getElem?_toArray, List.getElem?_cons_succ, List.getElem?_cons_zero]; try exact rfl)); (case hw => rfl); (case hl => rfl); (case hsp => rfl); (case he => rfl); (case hv => (intro w' hw'; (try have hw2 := Ext.trans hEW hw'); go_simp; exact rfl)); simp only [Act.put, List.setIfInBounds_toArray, List.set_cons_succ, List.set_cons_zero]) | (apply wpR_pass; (case ho => (simp only [List.getElem?_toArray, List.getElem?_cons_succ, List.getElem?_cons_zero]; try exact rfl)); (case hw => rfl); (case hl => rfl); simp only [Act.put, List.setIfInBounds_toArray, List.set_cons_succ, List.set_cons_zero]))
  apply wpR_nil
  apply hN
  intro w2 hE2 hK _
  have hEE := hEW.trans hE2
  clear hK hN o1 o2 hW hEW hE2
  have hEw := hE1.trans hEE
  have hob2 := hEE.blk hob
  clear hob hE1 hEE hwho hto
  have hol : w.heap.size < w2.heap.size := (Array.getElem?_eq_some_iff.1 hob2).1
  have c6 := cell_of_row w2 w.heap.size 6 _ _ _ hob2
  have f6 := frozen_of_row w2 w.heap.size 6 _ _ hob2
  have hob3 := heap_setCell_same w2 w.heap.size 6 _ _ (.slice o.A m o.c) hob2
  have hgo : w2.grownBy (w2.setCell ⟨w.heap.size, 6, none⟩ (.slice o.A m o.c)) (some w.heap.size) := ⟨rfl, rfl, rfl, by simp [World.setCell], fun k hk hn => Below.heap_setCell w2 _ _ k (by rintro rfl; exact hn rfl)⟩
  have hEw3 : Ext w (w2.setCell ⟨w.heap.size, 6, none⟩ (.slice o.A m o.c)) := ext_only hEw hgo (Nat.le_refl _)
  have hcut : o.cells.setIfInBounds 6 (.slice o.A m o.c) = o.cut m := rfl
  rw [hcut] at hob3
  have c6' := cell_of_row _ w.heap.size 6 _ _ _ hob3
  simp only [Opn.cells, Opn.cut, List.getElem?_toArray, List.getElem?_cons_zero, List.getElem?_cons_succ] at c6 c6'
  clear hcut hob2 hgo hEw
  have hs3 := hEw3.size
  have hwm2 : IntKind.i64.wrap ((m : Int) + 2) = ((m + 2 : Nat) : Int) := by rw [IntKind.wrap_i64]; omega
  go_wp2_with (first | (refine wpList_make_full _ rfl _ _ 202 rfl w.heap.size 51 i1 _ 1 Try.underlying202 hi1 hzi1 hsi1 .i64 .i64 _ _ (m + 2) rfl rfl (by omega) (by omega) (by have := Nat.mul_le_mul hbi1 (show m + 2 ≤ 102 by omega); omega) (by unfold maxLen; omega) (by have := hE3.size; omega) ?_; intro w4 ho4 hg4) | (refine wpList_make_full _ rfl _ _ 203 rfl w.heap.size 220 i0 _ 2 Try.underlying203 hi0 hz0 hzz1 .i64 .i64 _ _ (m + 2) rfl rfl (by omega) (by omega) (by rw [hzz2]; omega) (by unfold maxLen; omega) (by omega) ?_; intro w3 ho3 hg3; have hE3 : Ext (w2.setCell ⟨w.heap.size, 6, none⟩ (.slice o.A m o.c)) w3 := ⟨hg3.os, hg3.tape, hg3.output, hg3.size, fun k hk => hg3.block k hk (fun e => by cases e)⟩; have hob4 := hE3.blk hob3; have c6'' := cell_of_row _ w.heap.size 6 _ _ _ hob4; simp only [Opn.cut, List.getElem?_toArray, List.getElem?_cons_zero, List.getElem?_cons_succ] at c6''))
  have hob5 : (w4.alloc (Obj.cells #[Value.slice none 0 0] 87)).heap[w.heap.size]? = some (.cells (o.cut m) 89 (0, 0)) := by
    have hE4 : Ext w3 w4 := ⟨hg4.os, hg4.tape, hg4.output, hg4.size, fun k hk => hg4.block k hk (fun e => by cases e)⟩
    exact (ext_alloc _ _).blk (hE4.blk hob4)
  have hE4 : Ext w3 w4 := ⟨hg4.os, hg4.tape, hg4.output, hg4.size, fun k hk => hg4.block k hk (fun e => by cases e)⟩
  have hE5 := hEw3.trans (hE3.trans (hE4.trans (ext_alloc w4 (Obj.cells #[Value.slice none 0 0] 87))))
  have hsz2 : (w2.setCell ⟨w.heap.size, 6, none⟩ (.slice o.A m o.c)).heap.size = w2.heap.size := by simp [World.setCell]
  rw [hsz2] at ho3 hs3
  have hs4 := hE3.size
  rw [hsz2] at hs4
  have hlt3 : w2.heap.size < w3.heap.size := (World.ownsRow.lt ho3 _ rfl).2
  have hlt4 : w3.heap.size < w4.heap.size := (World.ownsRow.lt ho4 _ rfl).2
  have hf5 : Filld w.heap.size w2.heap.size w3.heap.size w.heap.size w4.heap.size m o (w4.alloc (Obj.cells #[Value.slice none 0 0] 87)) (List.replicate (m + 2) ⟨0, 0⟩) (List.replicate (m + 2) 0) := by
    refine ⟨⟨?_, by simp⟩, ⟨?_, by simp⟩, hob5, ⟨heap_alloc_new _ _, World.ownsRow_nil _ _ _ _, trivial, fun r h => (by cases h)⟩, fun r hr => ?_⟩
    · rw [flat_repd]
      have e := made_const #[Value.int .u16 0, Value.int .u16 0] (.int .u16 0) (fun i hi => by
        match i, hi with
        | 0, _ => rfl
        | 1, _ => rfl) (by decide) ((m + 2) * 2)
      have ho3' : w3.ownsRow w.heap.size 220 2 (.slice (some ⟨w2.heap.size, 0, none⟩) (m + 2) (m + 2)) (m + 2) (madeCells #[Value.int .u16 0, Value.int .u16 0] ((m + 2) * 2)).toList := ho3
      rw [e] at ho3'
      exact own_ext ho3' (hE4.trans (ext_alloc _ _))
    · rw [List.map_replicate]
      have e := made_const #[Value.int .u16 0] (.int .u16 0) (fun i hi => by
        match i, hi with
        | 0, _ => rfl) (by decide) ((m + 2) * 1)
      have ho4' : w4.ownsRow w.heap.size 51 1 (.slice (some ⟨w3.heap.size, 0, none⟩) (m + 2) (m + 2)) (m + 2) (madeCells #[Value.int .u16 0] ((m + 2) * 1)).toList := ho4
      rw [e, Nat.mul_one] at ho4'
      exact own_ext ho4' (ext_alloc _ _)
    · have := List.eq_of_mem_replicate hr
      subst this
      exact ⟨⟨by simp only; omega, by simp only; omega⟩, by simp only; omega, by simp only; omega⟩
  refine wp_cut (fun V => Ext w V ∧ Filld w.heap.size w2.heap.size w3.heap.size w.heap.size w4.heap.size m o V (List.replicate (m + 2) ⟨0, 0⟩) (List.replicate (m + 2) 0)) ⟨hE5, hf5⟩ ?_
  clear hE5 hf5 hob5 hE4 hE3 hEw3 ho3 ho4 hg3 hg4 hob3 hob4 c6 c6' c6'' f6 hsz2 hi1 hzi1 hsi1 hbi1
  rintro w5 ⟨hE5, hf5⟩
  obtain ⟨ib, hib⟩ : ∃ x, w2.heap.size = x := ⟨_, rfl⟩
  obtain ⟨lb, hlb⟩ : ∃ x, w3.heap.size = x := ⟨_, rfl⟩
  obtain ⟨nb, hnb⟩ : ∃ x, w4.heap.size = x := ⟨_, rfl⟩
  rw [hib] at hf5 hol hs3 hs4 hlt3 ⊢
  rw [hlb] at hf5 hs4 hlt3 hlt4 ⊢
  rw [hnb] at hf5 hlt4 ⊢
  obtain ⟨ob, hob⟩ : ∃ x, w.heap.size = x := ⟨_, rfl⟩
  have hobw := Nat.le_of_eq hob
  rw [hob] at hol ⊢
  have hf5' : Filld w.heap.size ib lb ob nb m o w5 (List.replicate (m + 2) ⟨0, 0⟩) (List.replicate (m + 2) 0) := by rw [← hob]; rw [← hob] at *; exact hf5
  have HOB := Lib.hid hob
  clear hf5 hib hlb hnb hmn hwm2 hob
  go_loopw [10] (fun iv wr => ∃ (k : Nat) (IN : List Rn) (LO : List Int), k ≤ m ∧ iv = .int .i64 k ∧ Filld w.heap.size ib lb ob nb m o wr IN LO ∧ Hid (∀ (j : Nat) (r : Rn), j < k → o.L[j]? = some r → IN[j]? = some (cvd r) ∧ LO[j]? = some (cvd r).lo) ∧ Ext w wr) (fun iv _ => m - (intOf iv).toNat)
  case atStart => exact ⟨0, _, _, Nat.zero_le _, rfl, hf5', Lib.hid (fun j r h => by omega), hE5⟩
  case round =>
    clear hf5' hE5
    obtain ⟨k, IN, LO, hk, rfl, hf, HV, hE⟩ := hrel
    have q6 : ∀ W, Ext wr W → W.cell? ⟨ob, 6, none⟩ = some (.slice o.A m o.c) := fun W h => cell_of_row _ _ _ _ _ _ (h.blk hf.o)
    have q6' := q6 wr (Below.refl _ _)
    by_cases hlt : k < m
    · obtain ⟨r, hr⟩ : ∃ r, o.L[k]? = some r := ⟨_, List.getElem?_eq_getElem (by omega)⟩
      obtain ⟨b, off, hA, hbB, hrd⟩ := ho.at hr
      have hkc : k < m + 2 := by omega
      have hkm1 : (k : Int) < (m : Int) := by omega
      have hkm2 : (k : Int) < (m : Int) + 2 := by omega
      rw [hA] at q6 q6'
      have hHV := HV.out
      have hk1 : k < IN.length := by rw [hf.a.len]; omega
      have hk2 : k < LO.length := by rw [hf.b.len]; omega
      have hbr := cv_bdd r
      have hszr := hE.size
      obtain ⟨zo, hzo⟩ : ∃ z, LO[k]? = some z := ⟨_, List.getElem?_eq_getElem hk2⟩
      go_wp2
      refine wp_region_rg (Exc fun q _ => q = ib) (rel_exc _) (fun V => RowNd w.heap.size V ib (m + 2) IN) [0, 1, 2, 3, 4, 5, 6, 7, 8, 9, 10, 11, 12, 13, 14, 15, 16, 17, 18] (fun _ => none) (fun i => match i with
        | 18 => some fun _ z V => RowNd w.heap.size V ib (m + 2) (IN.set k (cvd r))
        | _ => none) (fun _ => false) (by kernel_rfl) (by kernel_rfl) (fun _ _ h he => h.ext he) (hf.a.ext (Below.refl _ _).drew) (fun W N hW hF0 hN => ?_)
      have hEx : ∀ w', Exc (fun q _ => q = ib) W w' → Ext w w' := fun w' h => h.to_ext (hE.trans hW) (fun q _ h => by omega)
      have hEW : Exc (fun q _ => q = ib) W W := exc_refl _ _
      have e6 : ∀ w', Exc (fun q _ => q = ib) W w' → w'.cell? ⟨ob, 6, none⟩ = some (.slice (some ⟨b, off, none⟩) m o.c) := fun w' h => by
        rw [← hA]
        exact cell_of_row _ _ _ _ _ _ (h.blk (hW.blk hf.o) (by omega))
      have e7 : ∀ w', Exc (fun q _ => q = ib) W w' → w'.cell? ⟨b, off + k * 2, none⟩ = some (.int .i64 r.lo) ∧ w'.cell? ⟨b, off + k * 2 + 1, none⟩ = some (.int .i64 r.hi) := fun w' h => by
        exact hrd w' ((hEx w' h).mono hBw)
      have e8 : ∀ w', Exc (fun q _ => q = ib) W w' → w'.cell? ⟨b, off + k * 2, none⟩ = some (.int .i64 r.lo) := fun w' h => (e7 w' h).1
      have e9 : ∀ w', Exc (fun q _ => q = ib) W w' → w'.cell? ⟨b, off + k * 2 + 1, none⟩ = some (.int .i64 r.hi) := fun w' h => (e7 w' h).2
      clear hA
      repeat (first | (apply wpR_one; (case ho => (simp only [List.getElem?_toArray, List.getElem?_cons_succ, List.getElem?_cons_zero]; try exact rfl)); (case hw => rfl); (case hl => rfl); (case hsp => rfl); (case he => rfl); (case hv => (intro w' hw'; (try (have hw2 := Ext.trans hEW hw')); (try (have hw3 := Exc.trans hEW hw')); (try (have hw4 := Exk.trans hEW hw')); (try (have hw5 := Mrk.trans hEW hw')); go_simp; exact rfl)); (case hw0 => (first | exact Below.refl _ _ | exact Exc.of_ext (Below.refl _ _) | exact Exk.of_ext (Below.refl _ _) | exact Mrk.of_ext (Below.refl _ _))); simp only [Act.put, List.setIfInBounds_toArray, List.set_cons_succ, List.set_cons_zero]) | (apply wpR_early; (case ho => (simp only [List.getElem?_toArray, List.getElem?_cons_succ, List.getElem?_cons_zero]; try exact rfl)); (case hw => rfl); (case hl => rfl); (case hsp => rfl); (case he => rfl); (case hv => (intro w' hw'; (try have hw2 := Ext.trans hEW hw'); go_simp; exact rfl)); simp only [Act.put, List.setIfInBounds_toArray, List.set_cons_succ, List.set_cons_zero]) | (apply wpR_pass; (case ho => (simp only [List.getElem?_toArray, List.getElem?_cons_succ, List.getElem?_cons_zero]; try exact rfl)); (case hw => rfl); (case hl => rfl); simp only [Act.put, List.setIfInBounds_toArray, List.set_cons_succ, List.set_cons_zero]))
      refine wpR_late (by ((simp only [List.getElem?_toArray, List.getElem?_cons_succ, List.getElem?_cons_zero]; try exact rfl))) _ rfl rfl (fun V v w' w2 hh he => hh.ext he) (fun V V' h => rfl) (fun w' hw' hK hF => ?_) (fun v hv => ?_)
      · have hF2 : RowNd w.heap.size w' ib (m + 2) IN := hF
        refine opAt_list rfl #[] (fun Q hQ => ?_)
        refine wpList_store_own rfl 220 (.tmp 66) (.tmp 65) rfl ib (m + 2) (m + 2) (rcd (cvd r)) rfl rfl hF2.own hkc rfl (by kernel_rfl) (store_rund _) ?_
        intro w6 ho6 hg6
        exact hQ _ _ ⟨Exc.of_grown hg6 (fun q o h _ => by injection h with h; exact h.symm), hF2.set hkc ho6⟩
      clear hv
      simp only [Act.put, List.setIfInBounds_toArray, List.set_cons_succ, List.set_cons_zero]
      apply wpR_nil
      apply hN
      intro w6 hE6 hK hF
      have hN6 : RowNd w.heap.size w6 ib (m + 2) (IN.set k (cvd r)) := hF
      have hEw6 := hEx w6 hE6
      have hX6 := (Exc.of_ext hW (D := fun q _ => q = ib)).trans hE6
      have hM6 := hf.b.one hX6 (by omega)
      have ho6 := hX6.blk hf.o (by omega)
      have hn6 := hf.n.one hX6 (by omega) (fun e => by cases e)
      clear hK hN hF e6 e7 e8 e9 hEW hE6 hW hF0 hEx q6 q6'
      have hin : (IN.set k (cvd r))[k]? = some (cvd r) := by rw [List.getElem?_set_self hk1]
      have d0 := (hN6.at hin).1
      obtain ⟨d1, d2⟩ := hM6.at hzo
      have hst := hM6.set (k := k) (cvd r).lo
      have hx7 := setCell_excr w6 lb k (.int .u16 (cvd r).lo)
      have hE7 : Ext w (w6.setCell ⟨lb, k, none⟩ (.int .u16 (cvd r).lo)) := ext_only hEw6 hst.2 (by omega)
      have hf7 : Filld w.heap.size ib lb ob nb m o (w6.setCell ⟨lb, k, none⟩ (.int .u16 (cvd r).lo)) (IN.set k (cvd r)) (LO.set k (cvd r).lo) :=
        ⟨hN6.one hx7 (by omega), hst.1, hx7.blk ho6 (by omega), hn6.one hx7 (by omega) (fun e => by cases e), fun x hx => by
          rcases List.mem_or_eq_of_mem_set hx with hx | rfl
          · exact hf.bd x hx
          · exact hbr⟩
      have HV2 : Hid (∀ (j : Nat) (x : Rn), j < k + 1 → o.L[j]? = some x → (IN.set k (cvd r))[j]? = some (cvd x) ∧ (LO.set k (cvd r).lo)[j]? = some (cvd x).lo) := Lib.hid (fun j x hj hx => by
        by_cases e : j = k
        · subst e
          rw [hr] at hx
          injection hx with hx
          subst hx
          rw [List.getElem?_set_self hk1, List.getElem?_set_self hk2]
          exact ⟨rfl, rfl⟩
        · rw [List.getElem?_set_ne (by omega), List.getElem?_set_ne (by omega)]
          exact hHV j x (by omega) hx)
      clear hst hx7 hN6 hM6 ho6 hn6 hin hHV HV hzo hf hX6
      go_wp2
      go_roundw
      case rel => exact ⟨k + 1, _, _, by omega, by go_num, hf7, HV2, hE7⟩
      case measure => simp [intOf]; omega
    · have hmk : m = k := by omega
      subst hmk
      have hszr := hE.size
      go_wp2
      refine wp_cut (fun V => Ext wr V ∧ V.heap[wr.heap.size]? = some (.cells #[.int .u16 77, .int .u16 78] 220 (0, 0))) ⟨ext_alloc _ _, heap_alloc_new _ _⟩ ?_
      rintro w6 ⟨hE6, hrb⟩
      have hwm1 : IntKind.i64.wrap ((m : Int) + 1) = (m : Int) + 1 := by rw [IntKind.wrap_i64]; omega
      have hm1 : (m : Int) < (m : Int) + 2 := by omega
      have hm2 : (m : Int) + 1 < (m : Int) + 2 := by omega
      have hibl : ib < wr.heap.size := (World.ownsRow.lt hf.a.own _ rfl).2
      have hlbl : lb < wr.heap.size := (World.ownsRow.lt hf.b.own _ rfl).2
      have hnbl : nb < wr.heap.size := (Array.getElem?_eq_some_iff.1 hf.n.hd).1
      have hobl : ob < wr.heap.size := (Array.getElem?_eq_some_iff.1 hf.o).1
      obtain ⟨rb, hrbe⟩ : ∃ r, wr.heap.size = r := ⟨_, rfl⟩
      rw [hrbe] at hrb hibl hlbl hnbl hobl ⊢
      clear q6'
      refine wp_region_rg (Exc fun q _ => q = ib ∨ q = lb) (rel_exc _) (fun V => Endsd w.heap.size ib lb m V IN LO) [0, 1, 2, 3, 4, 5, 6, 7, 8, 9, 10, 11, 12, 13, 14, 15, 16, 17, 18, 19, 20, 21, 22, 23, 24, 25, 26, 27] (fun _ => none) (fun i => match i with
        | 21 => some fun _ z V => Endsd w.heap.size ib lb m V (IN.set m room) LO
        | 23 => some fun _ z V => Endsd w.heap.size ib lb m V ((IN.set m room).set (m + 1) room) LO
        | 25 => some fun _ z V => Endsd w.heap.size ib lb m V ((IN.set m room).set (m + 1) room) (LO.set m 77)
        | 27 => some fun _ z V => Endsd w.heap.size ib lb m V ((IN.set m room).set (m + 1) room) ((LO.set m 77).set (m + 1) 77)
        | _ => none) (fun _ => false) (by kernel_rfl) (by kernel_rfl) (fun _ _ h he => h.ext he) (⟨hf.a.ext (hE6.trans (Below.refl _ _).drew), hf.b.ext (hE6.trans (Below.refl _ _).drew)⟩) (fun W N hW hF0 hN => ?_)
      have hEW : Exc (fun q _ => q = ib ∨ q = lb) W W := exc_refl _ _
      have e6 : ∀ w', Exc (fun q _ => q = ib ∨ q = lb) W w' → w'.cell? ⟨ob, 6, none⟩ = some (.slice o.A m o.c) := fun w' h => cell_of_row _ _ _ _ _ _ (h.blk (hW.blk (hE6.blk hf.o)) (by omega))
      have e7 : ∀ w', Exc (fun q _ => q = ib ∨ q = lb) W w' → w'.cell? ⟨rb, 0, none⟩ = some (.int .u16 77) := fun w' h => cell_of_row _ _ _ _ _ _ (h.blk (hW.blk hrb) (by omega))
      have e8 : ∀ w', Exc (fun q _ => q = ib ∨ q = lb) W w' → w'.cell? ⟨rb, 1, none⟩ = some (.int .u16 78) := fun w' h => cell_of_row _ _ _ _ _ _ (h.blk (hW.blk hrb) (by omega))
      repeat (first | (apply wpR_one; (case ho => (simp only [List.getElem?_toArray, List.getElem?_cons_succ, List.getElem?_cons_zero]; try exact rfl)); (case hw => rfl); (case hl => rfl); (case hsp => rfl); (case he => rfl); (case hv => (intro w' hw'; (try (have hw2 := Ext.trans hEW hw')); (try (have hw3 := Exc.trans hEW hw')); (try (have hw4 := Exk.trans hEW hw')); (try (have hw5 := Mrk.trans hEW hw')); go_simp; exact rfl)); (case hw0 => (first | exact Below.refl _ _ | exact Exc.of_ext (Below.refl _ _) | exact Exk.of_ext (Below.refl _ _) | exact Mrk.of_ext (Below.refl _ _))); simp only [Act.put, List.setIfInBounds_toArray, List.set_cons_succ, List.set_cons_zero]) | (apply wpR_early; (case ho => (simp only [List.getElem?_toArray, List.getElem?_cons_succ, List.getElem?_cons_zero]; try exact rfl)); (case hw => rfl); (case hl => rfl); (case hsp => rfl); (case he => rfl); (case hv => (intro w' hw'; (try have hw2 := Ext.trans hEW hw'); go_simp; exact rfl)); simp only [Act.put, List.setIfInBounds_toArray, List.set_cons_succ, List.set_cons_zero]) | (apply wpR_pass; (case ho => (simp only [List.getElem?_toArray, List.getElem?_cons_succ, List.getElem?_cons_zero]; try exact rfl)); (case hw => rfl); (case hl => rfl); simp only [Act.put, List.setIfInBounds_toArray, List.set_cons_succ, List.set_cons_zero]))
      refine wpR_late (by ((simp only [List.getElem?_toArray, List.getElem?_cons_succ, List.getElem?_cons_zero]; try exact rfl))) _ rfl rfl (fun V v w' w2 hh he => hh.ext he) (fun V V' h => rfl) (fun w' hw' hK hF => ?_) (fun v hv => ?_)
      · have hF2 : Endsd w.heap.size ib lb m w' IN LO := hF
        refine opAt_list rfl #[] (fun Q hQ => ?_)
        refine wpList_store_own rfl 220 (.tmp 96) (.tmp 94) rfl ib (m + 2) (m + 2) (rcd room) rfl rfl hF2.a.own (show m < m + 2 by omega) rfl (by kernel_rfl) (store_rund _) ?_
        intro w7 ho7 hg7
        have hx7 : Exc (fun q _ => q = ib) w' w7 := Exc.of_grown hg7 (fun q o h _ => by injection h with h; exact h.symm)
        exact hQ _ _ ⟨Exc.of_grown hg7 (fun q o h _ => by injection h with h; exact .inl h.symm), hF2.a.set (by omega) ho7, hF2.b.one hx7 (by omega)⟩
      clear hv
      simp only [Act.put, List.setIfInBounds_toArray, List.set_cons_succ, List.set_cons_zero]
      repeat (first | (apply wpR_one; (case ho => (simp only [List.getElem?_toArray, List.getElem?_cons_succ, List.getElem?_cons_zero]; try exact rfl)); (case hw => rfl); (case hl => rfl); (case hsp => rfl); (case he => rfl); (case hv => (intro w' hw'; (try (have hw2 := Ext.trans hEW hw')); (try (have hw3 := Exc.trans hEW hw')); (try (have hw4 := Exk.trans hEW hw')); (try (have hw5 := Mrk.trans hEW hw')); go_simp; exact rfl)); (case hw0 => (first | exact Below.refl _ _ | exact Exc.of_ext (Below.refl _ _) | exact Exk.of_ext (Below.refl _ _) | exact Mrk.of_ext (Below.refl _ _))); simp only [Act.put, List.setIfInBounds_toArray, List.set_cons_succ, List.set_cons_zero]) | (apply wpR_early; (case ho => (simp only [List.getElem?_toArray, List.getElem?_cons_succ, List.getElem?_cons_zero]; try exact rfl)); (case hw => rfl); (case hl => rfl); (case hsp => rfl); (case he => rfl); (case hv => (intro w' hw'; (try have hw2 := Ext.trans hEW hw'); go_simp; exact rfl)); simp only [Act.put, List.setIfInBounds_toArray, List.set_cons_succ, List.set_cons_zero]) | (apply wpR_pass; (case ho => (simp only [List.getElem?_toArray, List.getElem?_cons_succ, List.getElem?_cons_zero]; try exact rfl)); (case hw => rfl); (case hl => rfl); simp only [Act.put, List.setIfInBounds_toArray, List.set_cons_succ, List.set_cons_zero]))
      refine wpR_late (by ((simp only [List.getElem?_toArray, List.getElem?_cons_succ, List.getElem?_cons_zero]; try exact rfl))) _ rfl rfl (fun V v w' w2 hh he => hh.ext he) (fun V V' h => rfl) (fun w' hw' hK hF => ?_) (fun v hv => ?_)
      · have hF2 : Endsd w.heap.size ib lb m w' (IN.set m room) LO := hF
        refine opAt_list rfl #[] (fun Q hQ => ?_)
        refine wpList_store_own rfl 220 (.tmp 97) (.tmp 95) rfl ib (m + 2) (m + 2) (rcd room) rfl rfl hF2.a.own (show m + 1 < m + 2 by omega) rfl (by kernel_rfl) (store_rund _) ?_
        intro w7 ho7 hg7
        have hx7 : Exc (fun q _ => q = ib) w' w7 := Exc.of_grown hg7 (fun q o h _ => by injection h with h; exact h.symm)
        exact hQ _ _ ⟨Exc.of_grown hg7 (fun q o h _ => by injection h with h; exact .inl h.symm), hF2.a.set (by omega) ho7, hF2.b.one hx7 (by omega)⟩
      clear hv
      simp only [Act.put, List.setIfInBounds_toArray, List.set_cons_succ, List.set_cons_zero]
      repeat (first | (apply wpR_one; (case ho => (simp only [List.getElem?_toArray, List.getElem?_cons_succ, List.getElem?_cons_zero]; try exact rfl)); (case hw => rfl); (case hl => rfl); (case hsp => rfl); (case he => rfl); (case hv => (intro w' hw'; (try (have hw2 := Ext.trans hEW hw')); (try (have hw3 := Exc.trans hEW hw')); (try (have hw4 := Exk.trans hEW hw')); (try (have hw5 := Mrk.trans hEW hw')); go_simp; exact rfl)); (case hw0 => (first | exact Below.refl _ _ | exact Exc.of_ext (Below.refl _ _) | exact Exk.of_ext (Below.refl _ _) | exact Mrk.of_ext (Below.refl _ _))); simp only [Act.put, List.setIfInBounds_toArray, List.set_cons_succ, List.set_cons_zero]) | (apply wpR_early; (case ho => (simp only [List.getElem?_toArray, List.getElem?_cons_succ, List.getElem?_cons_zero]; try exact rfl)); (case hw => rfl); (case hl => rfl); (case hsp => rfl); (case he => rfl); (case hv => (intro w' hw'; (try have hw2 := Ext.trans hEW hw'); go_simp; exact rfl)); simp only [Act.put, List.setIfInBounds_toArray, List.set_cons_succ, List.set_cons_zero]) | (apply wpR_pass; (case ho => (simp only [List.getElem?_toArray, List.getElem?_cons_succ, List.getElem?_cons_zero]; try exact rfl)); (case hw => rfl); (case hl => rfl); simp only [Act.put, List.setIfInBounds_toArray, List.set_cons_succ, List.set_cons_zero]))
      refine wpR_late (by ((simp only [List.getElem?_toArray, List.getElem?_cons_succ, List.getElem?_cons_zero]; try exact rfl))) _ rfl rfl (fun V v w' w2 hh he => hh.ext he) (fun V V' h => rfl) (fun w' hw' hK hF => ?_) (fun v hv => ?_)
      · have hF2 : Endsd w.heap.size ib lb m w' ((IN.set m room).set (m + 1) room) LO := hF
        obtain ⟨zo, hzo⟩ : ∃ z, LO[m]? = some z := ⟨_, List.getElem?_eq_getElem (by rw [hF2.b.len]; omega)⟩
        obtain ⟨d1, d2⟩ := hF2.b.at hzo
        have hst := hF2.b.set (k := m) 77
        have hx := setCell_excr w' lb m (.int .u16 77)
        have hfin : Endsd w.heap.size ib lb m (w'.setCell ⟨lb, m, none⟩ (.int .u16 77)) ((IN.set m room).set (m + 1) room) (LO.set m 77) := ⟨hF2.a.one hx (by omega), hst.1⟩
        have hxc : Exc (fun q _ => q = ib ∨ q = lb) w' (w'.setCell ⟨lb, m, none⟩ (.int .u16 77)) := ⟨hx.os, hx.tape, hx.output, hx.size, fun k o hk hn => hx.block k o hk (fun e => hn (.inr e))⟩
        clear e6 e7 e8 hst hx hF2
        unfold opAt
        go_simp
        exact ⟨undef, rfl, hxc, hfin⟩
      clear hv
      simp only [Act.put, List.setIfInBounds_toArray, List.set_cons_succ, List.set_cons_zero]
      repeat (first | (apply wpR_one; (case ho => (simp only [List.getElem?_toArray, List.getElem?_cons_succ, List.getElem?_cons_zero]; try exact rfl)); (case hw => rfl); (case hl => rfl); (case hsp => rfl); (case he => rfl); (case hv => (intro w' hw'; (try (have hw2 := Ext.trans hEW hw')); (try (have hw3 := Exc.trans hEW hw')); (try (have hw4 := Exk.trans hEW hw')); (try (have hw5 := Mrk.trans hEW hw')); go_simp; exact rfl)); (case hw0 => (first | exact Below.refl _ _ | exact Exc.of_ext (Below.refl _ _) | exact Exk.of_ext (Below.refl _ _) | exact Mrk.of_ext (Below.refl _ _))); simp only [Act.put, List.setIfInBounds_toArray, List.set_cons_succ, List.set_cons_zero]) | (apply wpR_early; (case ho => (simp only [List.getElem?_toArray, List.getElem?_cons_succ, List.getElem?_cons_zero]; try exact rfl)); (case hw => rfl); (case hl => rfl); (case hsp => rfl); (case he => rfl); (case hv => (intro w' hw'; (try have hw2 := Ext.trans hEW hw'); go_simp; exact rfl)); simp only [Act.put, List.setIfInBounds_toArray, List.set_cons_succ, List.set_cons_zero]) | (apply wpR_pass; (case ho => (simp only [List.getElem?_toArray, List.getElem?_cons_succ, List.getElem?_cons_zero]; try exact rfl)); (case hw => rfl); (case hl => rfl); simp only [Act.put, List.setIfInBounds_toArray, List.set_cons_succ, List.set_cons_zero]))
      refine wpR_late (by ((simp only [List.getElem?_toArray, List.getElem?_cons_succ, List.getElem?_cons_zero]; try exact rfl))) _ rfl rfl (fun V v w' w2 hh he => hh.ext he) (fun V V' h => rfl) (fun w' hw' hK hF => ?_) (fun v hv => ?_)
      · have hF2 : Endsd w.heap.size ib lb m w' ((IN.set m room).set (m + 1) room) (LO.set m 77) := hF
        obtain ⟨zo, hzo⟩ : ∃ z, (LO.set m 77)[m + 1]? = some z := ⟨_, List.getElem?_eq_getElem (by rw [hF2.b.len]; omega)⟩
        obtain ⟨d1, d2⟩ := hF2.b.at hzo
        have hst := hF2.b.set (k := m + 1) 77
        have hx := setCell_excr w' lb (m + 1) (.int .u16 77)
        have hfin : Endsd w.heap.size ib lb m (w'.setCell ⟨lb, m + 1, none⟩ (.int .u16 77)) ((IN.set m room).set (m + 1) room) ((LO.set m 77).set (m + 1) 77) := ⟨hF2.a.one hx (by omega), hst.1⟩
        have hxc : Exc (fun q _ => q = ib ∨ q = lb) w' (w'.setCell ⟨lb, m + 1, none⟩ (.int .u16 77)) := ⟨hx.os, hx.tape, hx.output, hx.size, fun k o hk hn => hx.block k o hk (fun e => hn (.inr e))⟩
        clear e6 e7 e8 hst hx hF2
        unfold opAt
        go_simp
        exact ⟨undef, rfl, hxc, hfin⟩
      clear hv
      simp only [Act.put, List.setIfInBounds_toArray, List.set_cons_succ, List.set_cons_zero]
      apply wpR_nil
      apply hN
      intro w7 hE7 hK hF
      have hend : Endsd w.heap.size ib lb m w7 ((IN.set m room).set (m + 1) room) ((LO.set m 77).set (m + 1) 77) := hF
      have hX7 := ((Exc.of_ext (hE6.trans hW) (D := fun q _ => q = ib ∨ q = lb))).trans hE7
      have hEw7 := hX7.to_ext hE (fun q _ h => by omega)
      have hrb7 := hE7.blk (hW.blk hrb) (by omega)
      have hlen1 := hf.a.len
      have hlen2 := hf.b.len
      have hn7 : SetAtr w.heap.size nb none 0 w7 [] := ⟨hX7.blk hf.n.hd (by omega), World.ownsRow_nil _ _ _ _, trivial, fun r h => by cases h⟩
      have hf7 : Filld w.heap.size ib lb ob nb m o w7 ((IN.set m room).set (m + 1) room) ((LO.set m 77).set (m + 1) 77) := ⟨hend.a, hend.b, hX7.blk hf.o (by omega), hn7, fun x hx => by
        rcases List.mem_or_eq_of_mem_set hx with hx | rfl
        · rcases List.mem_or_eq_of_mem_set hx with hx | rfl
          · exact hf.bd x hx
          · exact room_bdd
        · exact room_bdd⟩
      have hv1 : ∀ (j : Nat) (r : Rn), j < m → o.L[j]? = some r → ((IN.set m room).set (m + 1) room)[j]? = some (cvd r) ∧ ((LO.set m 77).set (m + 1) 77)[j]? = some (cvd r).lo := fun j r hj hr => by
        rw [List.getElem?_set_ne (by omega), List.getElem?_set_ne (by omega), List.getElem?_set_ne (by omega), List.getElem?_set_ne (by omega)]
        exact HV.out j r hj hr
      have hv2 : ((IN.set m room).set (m + 1) room)[m]? = some room ∧ ((IN.set m room).set (m + 1) room)[m + 1]? = some room ∧ ((LO.set m 77).set (m + 1) 77)[m]? = some 77 ∧ ((LO.set m 77).set (m + 1) 77)[m + 1]? = some 77 := by
        refine ⟨?_, ?_, ?_, ?_⟩
        · rw [List.getElem?_set_ne (by omega), List.getElem?_set_self (by omega)]
        · rw [List.getElem?_set_self (by rw [List.length_set]; omega)]
        · rw [List.getElem?_set_ne (by omega), List.getElem?_set_self (by omega)]
        · rw [List.getElem?_set_self (by rw [List.length_set]; omega)]
      obtain ⟨IN2, hIN2⟩ : ∃ l, (IN.set m room).set (m + 1) room = l := ⟨_, rfl⟩
      obtain ⟨LO2, hLO2⟩ : ∃ l, (LO.set m 77).set (m + 1) 77 = l := ⟨_, rfl⟩
      rw [hIN2] at hf7 hv1 hv2
      rw [hLO2] at hf7 hv1 hv2
      have HV1 := Lib.hid hv1
      have HV2 := Lib.hid hv2
      clear hK hN hF e6 e7 e8 hEW hE7 hW hF0 q6 hf HV hend hX7 hn7 hv1 hv2 hIN2 hLO2 hlen1 hlen2 hE hE6 hrb hwm1
      have hm100i : (0 : Int) ≤ (m : Int) := by omega
      have h7 := (h.mono (Nat.le_succ n)).ext hEw7
      have hN0 : w.heap.size ≤ w7.heap.size := hEw7.size
      have hlp : ∀ i, i < 3 → s.p.P i < w7.heap.size := fun i hi => (Array.getElem?_eq_some_iff.1 (h7.pt.ps.ps i hi).hd).1
      have hlt : ∀ t ∈ s.ts, ∀ b, t.v.ownBlock = some b → b < w7.heap.size := fun t ht b hb => (World.ownsRow.lt (h7.pt.tds.tk t ht) b hb).2
      have hlr : ∀ i, i < 3 → s.r.P i < w.heap.size := fun i hi => (Array.getElem?_eq_some_iff.1 (h.pt.rs.ps i hi).hd).1
      have hlq : ∀ x ∈ s.ws, x.q < w.heap.size := fun x hx => (Array.getElem?_eq_some_iff.1 (h.pt.wks.of x hx).hd).1
      have o0 := cell_of_row w7 ob 0 _ _ _ hf7.o
      simp only [Opn.cut, List.getElem?_toArray, List.getElem?_cons_zero] at o0
      have hwi : (who : Int) < 3 := by omega
      have hB7 : B ≤ w7.heap.size := by omega
      have hib7 : ib < w7.heap.size := (World.ownsRow.lt hf7.a.own _ rfl).2
      have hx7 : xb < w7.heap.size := by omega
      have hnbw : w.heap.size ≤ nb := by omega
      have hlpv : ∀ i, i < 3 → ∀ b, (s.p.v i).ownBlock = some b → b < w.heap.size := fun i hi b hb => (World.ownsRow.lt (h.pt.ps.ps i hi).row b hb).2
      have hibt : ∀ t ∈ s.ts, t.v.ownBlock ≠ some ib := fun t ht e => by have := (World.ownsRow.lt (h.pt.tds.tk t ht) ib e).2; omega
      have hibw : ∀ x ∈ s.ws, (Value.slice x.A x.L.length x.c).ownBlock ≠ some ib := fun x hx e => by have := (World.ownsRow.lt (h.pt.wks.wk x hx).row ib e).2; omega
      clear h
      go_upto_block 2 with fail
      go_cut [9, 12, 13] from 100 to 186 (fun s9 s12 s13 wx => ∃ (nq q9 : Nat) (A9 An : Option Addr) (c9' cn : Nat) (L9 : List Rn), s9 = .pointer (some ⟨nq, 0, none⟩) ∧ MidRd B xb n ib lb ob rb m who o s w IN2 LO2 nq q9 A9 An c9' cn L9 wx)
      case first =>
        by_cases hk7 : o.kind = 7
        · have hSt := h7.pt.ps.ps tw ht3
          have hRt := h7.pt.rs.ps tw ht3
          have hll := h7.pt.ps.len tw ht3
          have hlr2 := h7.pt.rs.len tw ht3
          have y0 : ∀ W, Ext w7 W → W.cell? ⟨xb, tw, none⟩ = some (.pointer (some ⟨s.p.P tw, 0, none⟩)) := fun W hh => by rw [cell_of_row _ _ _ _ _ _ (h7.ext hh).hd, wk_p s ht3]
          have y1 : ∀ W, Ext w7 W → W.cell? ⟨xb, 3 + tw, none⟩ = some (.pointer (some ⟨s.r.P tw, 0, none⟩)) := fun W hh => by rw [cell_of_row _ _ _ _ _ _ (h7.ext hh).hd, wk_r s ht3]
          have hti : (tw : Int) < 3 := by omega
          go_wp2
          refine wp_region_rg (Exc (DK w7.heap.size xb none 0 0)) (rel_exc _) (fun V => WorkAtd B xb (n + 1) V s) [0, 1, 2, 3, 4, 5, 6, 7, 8, 9, 10, 11, 12, 13, 14, 15, 16, 17, 18, 19, 20] (fun i => match i with
            | 8 => some fun _ z V => NewPd B w7.heap.size (s.p.L tw) z V
            | 15 => some fun _ z V => CopyK B w7.heap.size (s.r.L tw) z V
            | _ => none) (fun i => match i with
            | 19 => some fun V z W => PutPd B xb (n + 1) w7.heap.size s who (s.p.L tw) W
            | _ => none) (fun i => match i with | 7 => true | 14 => true | _ => false) (by kernel_rfl) (by kernel_rfl) (fun _ _ h he => h.ext he) (h7.ext (Below.refl _ _).drew) (fun W N hW hF0 hN => ?_)
          have hEW : Exc (DK w7.heap.size xb none 0 0) W W := exc_refl _ _
          have z0 : ∀ w', Ext W w' → w'.cell? ⟨xb, tw, none⟩ = some (.pointer (some ⟨s.p.P tw, 0, none⟩)) := fun w' h => y0 w' (hW.trans h)
          have z1 : ∀ w', Ext W w' → w'.cell? ⟨xb, 3 + tw, none⟩ = some (.pointer (some ⟨s.r.P tw, 0, none⟩)) := fun w' h => y1 w' (hW.trans h)
          have hD : ∀ {a : Nat} {y : Array Value} {ty : TypeId} {fr : Nat × Nat}, W.heap[a]? = some (.cells y ty fr) → ty ≠ 120 → ¬ DK w7.heap.size xb none 0 0 a (.cells y ty fr) := fun ha hne e => by
            rcases e.2 with e | e
            · exact blk_ne ha hF0.hd hne e
            · cases e
          have hSk : ∀ w', Exc (DK w7.heap.size xb none 0 0) W w' → SetAtd B (s.p.P tw) (s.p.A tw) (s.p.c tw) w' (s.p.L tw) := fun w' h' => by
            have hr := hSt.ext hW
            exact ⟨h'.blk hr.hd (hD hr.hd (by decide)), own_out hr.row h' (fun b _ hb e => by
              obtain ⟨_, cs, hg⟩ := own_blk hr.row hb
              exact hD hg (by decide) e), hr.wf, hr.bd⟩
          have hRk : ∀ w', Exc (DK w7.heap.size xb none 0 0) W w' → SetAtr B (s.r.P tw) (s.r.A tw) (s.r.c tw) w' (s.r.L tw) := fun w' h' => by
            have hr := hRt.ext hW
            exact ⟨h'.blk hr.hd (hD hr.hd (by decide)), own_out hr.row h' (fun b _ hb e => by
              obtain ⟨_, cs, hg⟩ := own_blk hr.row hb
              exact hD hg (by decide) e), hr.wf, hr.bd⟩
          have hWs := hW.size
          repeat (first | (apply wpR_one; (case ho => (simp only [List.getElem?_toArray, List.getElem?_cons_succ, List.getElem?_cons_zero]; try exact rfl)); (case hw => rfl); (case hl => rfl); (case hsp => rfl); (case he => rfl); (case hv => (intro w' hw'; (try (have hw2 := Ext.trans hEW hw')); (try (have hw3 := Exc.trans hEW hw')); (try (have hw4 := Exk.trans hEW hw')); (try (have hw5 := Mrk.trans hEW hw')); go_simp; exact rfl)); (case hw0 => (first | exact Below.refl _ _ | exact Exc.of_ext (Below.refl _ _) | exact Exk.of_ext (Below.refl _ _) | exact Mrk.of_ext (Below.refl _ _))); simp only [Act.put, List.setIfInBounds_toArray, List.set_cons_succ, List.set_cons_zero]) | (apply wpR_early; (case ho => (simp only [List.getElem?_toArray, List.getElem?_cons_succ, List.getElem?_cons_zero]; try exact rfl)); (case hw => rfl); (case hl => rfl); (case hsp => rfl); (case he => rfl); (case hv => (intro w' hw'; (try have hw2 := Ext.trans hEW hw'); go_simp; exact rfl)); simp only [Act.put, List.setIfInBounds_toArray, List.set_cons_succ, List.set_cons_zero]) | (apply wpR_pass; (case ho => (simp only [List.getElem?_toArray, List.getElem?_cons_succ, List.getElem?_cons_zero]; try exact rfl)); (case hw => rfl); (case hl => rfl); simp only [Act.put, List.setIfInBounds_toArray, List.set_cons_succ, List.set_cons_zero]))
          refine wpR_new (by ((simp only [List.getElem?_toArray, List.getElem?_cons_succ, List.getElem?_cons_zero]; try exact rfl))) _ rfl rfl rfl (fun V v => NewPd.lasts _ _ _ _ _ _ _ _) (fun V V' h => rfl) (fun w' hw' hK => ?_) (fun z hz => ?_)
          · have hs := hw'.size
            have hSw := hSk w' hw'
            clear z0 z1 y0 y1
            unfold opAt; go_simp; refine upAt_enter ?_
            refine (copy_anyd hSw (by omega)).mono ?_
            rintro e w8 ⟨q, A8, c8, rfl, hq8, h8, hE8⟩
            exact ⟨_, rfl, hE8, q, A8, c8, rfl, by omega, ⟨h8.hd, own_mono h8.row (by omega), h8.wf, h8.bd⟩, fun q hq => by have := (World.ownsRow.lt h8.row q hq).1; omega⟩
          obtain ⟨_, _, _, qp, _, _, rfl, _⟩ := hz
          simp only [Act.put, List.setIfInBounds_toArray, List.set_cons_succ, List.set_cons_zero]
          repeat (first | (apply wpR_one; (case ho => (simp only [List.getElem?_toArray, List.getElem?_cons_succ, List.getElem?_cons_zero]; try exact rfl)); (case hw => rfl); (case hl => rfl); (case hsp => rfl); (case he => rfl); (case hv => (intro w' hw'; (try (have hw2 := Ext.trans hEW hw')); (try (have hw3 := Exc.trans hEW hw')); (try (have hw4 := Exk.trans hEW hw')); (try (have hw5 := Mrk.trans hEW hw')); go_simp; exact rfl)); (case hw0 => (first | exact Below.refl _ _ | exact Exc.of_ext (Below.refl _ _) | exact Exk.of_ext (Below.refl _ _) | exact Mrk.of_ext (Below.refl _ _))); simp only [Act.put, List.setIfInBounds_toArray, List.set_cons_succ, List.set_cons_zero]) | (apply wpR_early; (case ho => (simp only [List.getElem?_toArray, List.getElem?_cons_succ, List.getElem?_cons_zero]; try exact rfl)); (case hw => rfl); (case hl => rfl); (case hsp => rfl); (case he => rfl); (case hv => (intro w' hw'; (try have hw2 := Ext.trans hEW hw'); go_simp; exact rfl)); simp only [Act.put, List.setIfInBounds_toArray, List.set_cons_succ, List.set_cons_zero]) | (apply wpR_pass; (case ho => (simp only [List.getElem?_toArray, List.getElem?_cons_succ, List.getElem?_cons_zero]; try exact rfl)); (case hw => rfl); (case hl => rfl); simp only [Act.put, List.setIfInBounds_toArray, List.set_cons_succ, List.set_cons_zero]))
          refine wpR_new (by ((simp only [List.getElem?_toArray, List.getElem?_cons_succ, List.getElem?_cons_zero]; try exact rfl))) _ rfl rfl rfl (fun V v => CopyK.lasts _ _ _ _ _ _ _ _) (fun V V' h => rfl) (fun w' hw' hK => ?_) (fun z hz => ?_)
          · have hs := hw'.size
            have hRw := hRk w' hw'
            clear z0 z1 y0 y1
            unfold opAt; go_simp; refine upAt_enter ?_
            refine (rcopy_any hRw (by omega)).mono ?_
            rintro e w8 ⟨q, A8, c8, rfl, hq8, h8, hE8⟩
            exact ⟨_, rfl, hE8, q, A8, c8, rfl, by omega, ⟨h8.hd, own_mono h8.row (by omega), h8.wf, h8.bd⟩, fun q hq => by have := (World.ownsRow.lt h8.row q hq).1; omega⟩
          obtain ⟨_, _, _, qn, _, _, rfl, _⟩ := hz
          simp only [Act.put, List.setIfInBounds_toArray, List.set_cons_succ, List.set_cons_zero]
          repeat (first | (apply wpR_one; (case ho => (simp only [List.getElem?_toArray, List.getElem?_cons_succ, List.getElem?_cons_zero]; try exact rfl)); (case hw => rfl); (case hl => rfl); (case hsp => rfl); (case he => rfl); (case hv => (intro w' hw'; (try (have hw2 := Ext.trans hEW hw')); (try (have hw3 := Exc.trans hEW hw')); (try (have hw4 := Exk.trans hEW hw')); (try (have hw5 := Mrk.trans hEW hw')); go_simp; exact rfl)); (case hw0 => (first | exact Below.refl _ _ | exact Exc.of_ext (Below.refl _ _) | exact Exk.of_ext (Below.refl _ _) | exact Mrk.of_ext (Below.refl _ _))); simp only [Act.put, List.setIfInBounds_toArray, List.set_cons_succ, List.set_cons_zero]) | (apply wpR_early; (case ho => (simp only [List.getElem?_toArray, List.getElem?_cons_succ, List.getElem?_cons_zero]; try exact rfl)); (case hw => rfl); (case hl => rfl); (case hsp => rfl); (case he => rfl); (case hv => (intro w' hw'; (try have hw2 := Ext.trans hEW hw'); go_simp; exact rfl)); simp only [Act.put, List.setIfInBounds_toArray, List.set_cons_succ, List.set_cons_zero]) | (apply wpR_pass; (case ho => (simp only [List.getElem?_toArray, List.getElem?_cons_succ, List.getElem?_cons_zero]; try exact rfl)); (case hw => rfl); (case hl => rfl); simp only [Act.put, List.setIfInBounds_toArray, List.set_cons_succ, List.set_cons_zero]))
          refine wpR_late (by ((simp only [List.getElem?_toArray, List.getElem?_cons_succ, List.getElem?_cons_zero]; try exact rfl))) _ rfl rfl (fun V v => PutPd.lasts _ _ _ _ _ _ _) (fun V V' h => rfl) (fun w' hw' hK hF => ?_) (fun v hv => ?_)
          · have hF2 : WorkAtd B xb (n + 1) w' s := hF
            have hfin := putP_stored hF2 hw3 (hK 8 (by kernel_rfl)).2 hB7 (by omega) hlp hlt
            have c4 := cell_of_row w' xb who _ _ _ hF2.hd
            rw [wk_p s hw3] at c4
            have f4 := frozen_of_row w' xb who _ _ hF2.hd
            have hxc : Exc (DK w7.heap.size xb none 0 0) w' (w'.setCell ⟨xb, who, none⟩ (.pointer (some ⟨qp, 0, none⟩))) := by
              have hx := setCell_excr w' xb who (.pointer (some ⟨qp, 0, none⟩))
              exact ⟨hx.os, hx.tape, hx.output, hx.size, fun k o hk hn => hx.block k o hk (fun e => hn ⟨by omega, .inl e⟩)⟩
            clear z0 z1 y0 y1 hF2 hK
            unfold opAt
            go_simp
            exact ⟨undef, rfl, hxc, hfin⟩
          clear hv
          simp only [Act.put, List.setIfInBounds_toArray, List.set_cons_succ, List.set_cons_zero]
          repeat (first | (apply wpR_one; (case ho => (simp only [List.getElem?_toArray, List.getElem?_cons_succ, List.getElem?_cons_zero]; try exact rfl)); (case hw => rfl); (case hl => rfl); (case hsp => rfl); (case he => rfl); (case hv => (intro w' hw'; (try (have hw2 := Ext.trans hEW hw')); (try (have hw3 := Exc.trans hEW hw')); (try (have hw4 := Exk.trans hEW hw')); (try (have hw5 := Mrk.trans hEW hw')); go_simp; exact rfl)); (case hw0 => (first | exact Below.refl _ _ | exact Exc.of_ext (Below.refl _ _) | exact Exk.of_ext (Below.refl _ _) | exact Mrk.of_ext (Below.refl _ _))); simp only [Act.put, List.setIfInBounds_toArray, List.set_cons_succ, List.set_cons_zero]) | (apply wpR_early; (case ho => (simp only [List.getElem?_toArray, List.getElem?_cons_succ, List.getElem?_cons_zero]; try exact rfl)); (case hw => rfl); (case hl => rfl); (case hsp => rfl); (case he => rfl); (case hv => (intro w' hw'; (try have hw2 := Ext.trans hEW hw'); go_simp; exact rfl)); simp only [Act.put, List.setIfInBounds_toArray, List.set_cons_succ, List.set_cons_zero]) | (apply wpR_pass; (case ho => (simp only [List.getElem?_toArray, List.getElem?_cons_succ, List.getElem?_cons_zero]; try exact rfl)); (case hw => rfl); (case hl => rfl); simp only [Act.put, List.setIfInBounds_toArray, List.set_cons_succ, List.set_cons_zero]))
          apply wpR_nil
          apply hN
          intro v9 hE9 hK hF
          obtain ⟨q9, A9, c9', h9, hfr9⟩ : PutPd B xb (n + 1) w7.heap.size s who (s.p.L tw) v9 := hF
          obtain ⟨nq, An, cn, enq, hnq, hn9, _⟩ : CopyK B w7.heap.size (s.r.L tw) (.pointer (some ⟨qn, 0, none⟩)) v9 := (hK 15).2
          have hqn : qn = nq := by simpa using enq
          subst hqn
          obtain ⟨nq, hnqe⟩ : ∃ x, qn = x := ⟨_, rfl⟩
          rw [hnqe] at hn9 hnq ⊢
          obtain ⟨L9, hL9⟩ : ∃ L, s.p.L tw = L := ⟨_, rfl⟩
          rw [← hok.eq tw ht3, hL9] at hn9
          rw [hL9] at h9 hfr9
          have hl9 : L9.length ≤ n + 1 := by rw [← hL9]; exact hll
          have hBn : B ≤ nq := by omega
          have hXd : Exc (DK w7.heap.size xb none 0 0) w7 v9 := (Exc.of_ext hW).trans hE9
          have hX9 : Exc (DB B) w v9 := (Exc.of_ext hEw7).trans ⟨hXd.os, hXd.tape, hXd.output, hXd.size, fun k o hk hn => hXd.block k o hk (fun e => hn (e.2.elim (fun e => by subst e; exact db_of hk h7.hB h7.hd (by decide)) (fun e => by cases e)))⟩
          have hnd : ∀ {a : Nat} {ob' : Obj}, a ≠ xb → ¬ DK w7.heap.size xb none 0 0 a ob' := fun ha e => e.2.elim (fun e => ha e) (fun e => by cases e)
          have ra9 : RowNd w.heap.size v9 ib (m + 2) IN2 := ⟨own_out hf7.a.own hXd (fun b _ hb => hnd (by have e : ib = b := (by injection hb); omega)), hf7.a.len⟩
          have rm9 : RowMd w.heap.size v9 lb (m + 2) LO2 := ⟨own_out hf7.b.own hXd (fun b _ hb => hnd (by have e : lb = b := (by injection hb); omega)), hf7.b.len⟩
          have ro9 := hXd.blk hf7.o (hnd (show ob ≠ xb by omega))
          have rr9 := hXd.blk hrb7 (hnd (show rb ≠ xb by omega))
          have hnqr : ∀ i, i < 3 → s.r.P i < nq := fun i hi => by have := hlr i hi; omega
          have hib9 : ∀ i, i < 3 → ((s.p.put who q9 A9 c9' L9).v i).ownBlock ≠ some ib := fun i hi e => by
            simp only [Tri.put, Tri.v] at e
            by_cases hiw : i = who
            · simp only [if_pos hiw] at e
              have := hfr9 ib e
              omega
            · simp only [if_neg hiw] at e
              have := hlpv i hi ib e
              omega
          clear hK hN z0 z1 y0 y1 hSk hRk hEW hE9 hW hF0 hD hXd hnd hf7 hrb7 hSt hRt hnqe enq
          go_wp2
          go_meet
          case rel => exact ⟨nq, q9, A9, An, c9', cn, L9, rfl, ⟨h9, hn9, hl9, by omega, ra9, rm9, ro9, rr9, hib9, hX9⟩⟩
        -- «ARMS»
        by_cases hk9 : o.kind = 9
        -- Of
        · obtain ⟨L9, hL9⟩ : ∃ L, (IN2.take m).foldl addL [] = L := ⟨_, rfl⟩
          have hlen9 := foldl_addL_len (IN2.take m) []
          rw [hL9] at hlen9
          have htk : (IN2.take m).length = m := by rw [List.length_take, hf7.a.len]; omega
          have htk2 : (IN2.take m).length = m := by rw [List.length_take, hf7.a.len]; omega
          rw [htk2, List.length_nil] at hlen9
          have y6 : ∀ W, Ext w7 W → W.cell? ⟨ob, 6, none⟩ = some (.slice o.A m o.c) := fun W hh => cell_of_row _ _ _ _ _ _ (hh.blk hf7.o)
          have HL9 := Lib.hid hL9
          have hmi2 : (m : Int) ≤ (m : Int) + 2 := by omega
          clear hL9
          go_wp2
          refine wp_region_rg (Exc (DK w7.heap.size xb none 0 0)) (rel_exc _) (fun V => WorkAtd B xb (n + 1) V s) [0, 1, 2, 3, 4, 5, 6, 7, 8, 9, 10, 11] (fun i => match i with
            | 7 => some fun _ z V => NewPd B w7.heap.size L9 z V
            | _ => none) (fun i => match i with
            | 11 => some fun V z W => PutPd B xb (n + 1) w7.heap.size s who L9 W
            | _ => none) (fun _ => false) (by kernel_rfl) (by kernel_rfl) (fun _ _ h he => h.ext he) (h7.ext (Below.refl _ _).drew) (fun W N hW hF0 hN => ?_)
          have hEW : Exc (DK w7.heap.size xb none 0 0) W W := exc_refl _ _
          have hnd : ∀ {a : Nat} {ob' : Obj}, a ≠ xb → ¬ DK w7.heap.size xb none 0 0 a ob' := fun ha e => e.2.elim (fun e => ha e) (fun e => by cases e)
          have hRN : ∀ w', Exc (DK w7.heap.size xb none 0 0) W w' → RowNd w.heap.size w' ib (m + 2) IN2 := fun w' h' => ⟨own_out (hf7.a.ext hW).own h' (fun b _ hb => hnd (by have e : ib = b := (by injection hb); omega)), hf7.a.len⟩
          have hRM : ∀ w', Exc (DK w7.heap.size xb none 0 0) W w' → RowMd w.heap.size w' lb (m + 2) LO2 := fun w' h' => ⟨own_out (hf7.b.ext hW).own h' (fun b _ hb => hnd (by have e : lb = b := (by injection hb); omega)), hf7.b.len⟩
          have z6 : ∀ w', Exc (DK w7.heap.size xb none 0 0) W w' → w'.cell? ⟨ob, 6, none⟩ = some (.slice o.A m o.c) := fun w' h' => cell_of_row _ _ _ _ _ _ (h'.blk (hW.blk hf7.o) (hnd (show ob ≠ xb by omega)))
          have hWs := hW.size
          repeat (first | (apply wpR_one; (case ho => (simp only [List.getElem?_toArray, List.getElem?_cons_succ, List.getElem?_cons_zero]; try exact rfl)); (case hw => rfl); (case hl => rfl); (case hsp => rfl); (case he => rfl); (case hv => (intro w' hw'; (try (have hw2 := Ext.trans hEW hw')); (try (have hw3 := Exc.trans hEW hw')); (try (have hw4 := Exk.trans hEW hw')); (try (have hw5 := Mrk.trans hEW hw')); go_simp; exact rfl)); (case hw0 => (first | exact Below.refl _ _ | exact Exc.of_ext (Below.refl _ _) | exact Exk.of_ext (Below.refl _ _) | exact Mrk.of_ext (Below.refl _ _))); simp only [Act.put, List.setIfInBounds_toArray, List.set_cons_succ, List.set_cons_zero]) | (apply wpR_early; (case ho => (simp only [List.getElem?_toArray, List.getElem?_cons_succ, List.getElem?_cons_zero]; try exact rfl)); (case hw => rfl); (case hl => rfl); (case hsp => rfl); (case he => rfl); (case hv => (intro w' hw'; (try have hw2 := Ext.trans hEW hw'); go_simp; exact rfl)); simp only [Act.put, List.setIfInBounds_toArray, List.set_cons_succ, List.set_cons_zero]) | (apply wpR_pass; (case ho => (simp only [List.getElem?_toArray, List.getElem?_cons_succ, List.getElem?_cons_zero]; try exact rfl)); (case hw => rfl); (case hl => rfl); simp only [Act.put, List.setIfInBounds_toArray, List.set_cons_succ, List.set_cons_zero]))
          refine wpR_new (by ((simp only [List.getElem?_toArray, List.getElem?_cons_succ, List.getElem?_cons_zero]; try exact rfl))) _ rfl rfl rfl (fun V v => NewPd.lasts _ _ _ _ _ _ _ _) (fun V V' h => rfl) (fun w' hw' hK => ?_) (fun z hz => ?_)
          · have hs := hw'.size
            have hpre : RowRd w.heap.size w' (some ⟨ib, 0, none⟩) (m + 2) (IN2.take m) := by
              have h1 := own_prefix (k := m) (t := 2) (hRN w' hw').own
              rw [flat_taked] at h1
              unfold RowRd
              rw [htk]
              exact h1
            have hbdm : ∀ r ∈ IN2.take m, Bdd r := fun r hr => hf7.bd r (List.mem_of_mem_take hr)
            clear z6 y6
            have HOF := of_anyd (B := w.heap.size) (w := w') (l := IN2.take m) hpre (by simp; omega) hbdm
            rw [htk] at HOF
            unfold opAt; go_simp; refine upAt_enter ?_
            refine HOF.mono ?_
            rintro e w8 ⟨q, A8, c8, rfl, hq8, h8, hE8⟩
            rw [HL9.out] at h8
            exact ⟨_, rfl, hE8, q, A8, c8, rfl, by omega, ⟨h8.hd, own_mono h8.row (by omega), h8.wf, h8.bd⟩, fun q hq => by have := (World.ownsRow.lt h8.row q hq).1; omega⟩
          obtain ⟨_, _, _, qp, _, _, rfl, _⟩ := hz
          simp only [Act.put, List.setIfInBounds_toArray, List.set_cons_succ, List.set_cons_zero]
          repeat (first | (apply wpR_one; (case ho => (simp only [List.getElem?_toArray, List.getElem?_cons_succ, List.getElem?_cons_zero]; try exact rfl)); (case hw => rfl); (case hl => rfl); (case hsp => rfl); (case he => rfl); (case hv => (intro w' hw'; (try (have hw2 := Ext.trans hEW hw')); (try (have hw3 := Exc.trans hEW hw')); (try (have hw4 := Exk.trans hEW hw')); (try (have hw5 := Mrk.trans hEW hw')); go_simp; exact rfl)); (case hw0 => (first | exact Below.refl _ _ | exact Exc.of_ext (Below.refl _ _) | exact Exk.of_ext (Below.refl _ _) | exact Mrk.of_ext (Below.refl _ _))); simp only [Act.put, List.setIfInBounds_toArray, List.set_cons_succ, List.set_cons_zero]) | (apply wpR_early; (case ho => (simp only [List.getElem?_toArray, List.getElem?_cons_succ, List.getElem?_cons_zero]; try exact rfl)); (case hw => rfl); (case hl => rfl); (case hsp => rfl); (case he => rfl); (case hv => (intro w' hw'; (try have hw2 := Ext.trans hEW hw'); go_simp; exact rfl)); simp only [Act.put, List.setIfInBounds_toArray, List.set_cons_succ, List.set_cons_zero]) | (apply wpR_pass; (case ho => (simp only [List.getElem?_toArray, List.getElem?_cons_succ, List.getElem?_cons_zero]; try exact rfl)); (case hw => rfl); (case hl => rfl); simp only [Act.put, List.setIfInBounds_toArray, List.set_cons_succ, List.set_cons_zero]))
          refine wpR_late (by ((simp only [List.getElem?_toArray, List.getElem?_cons_succ, List.getElem?_cons_zero]; try exact rfl))) _ rfl rfl (fun V v => PutPd.lasts _ _ _ _ _ _ _) (fun V V' h => rfl) (fun w' hw' hK hF => ?_) (fun v hv => ?_)
          · have hF2 : WorkAtd B xb (n + 1) w' s := hF
            have hfin := putP_stored hF2 hw3 (hK 7 (by kernel_rfl)).2 hB7 (by omega) hlp hlt
            have c4 := cell_of_row w' xb who _ _ _ hF2.hd
            rw [wk_p s hw3] at c4
            have f4 := frozen_of_row w' xb who _ _ hF2.hd
            have hxc : Exc (DK w7.heap.size xb none 0 0) w' (w'.setCell ⟨xb, who, none⟩ (.pointer (some ⟨qp, 0, none⟩))) := by
              have hx := setCell_excr w' xb who (.pointer (some ⟨qp, 0, none⟩))
              exact ⟨hx.os, hx.tape, hx.output, hx.size, fun k o hk hn => hx.block k o hk (fun e => hn ⟨by omega, .inl e⟩)⟩
            clear z6 y6 hF2 hK
            unfold opAt
            go_simp
            exact ⟨undef, rfl, hxc, hfin⟩
          clear hv
          simp only [Act.put, List.setIfInBounds_toArray, List.set_cons_succ, List.set_cons_zero]
          apply wpR_nil
          apply hN
          intro v9 hE9 hK hF
          obtain ⟨q9, A9, c9', h9, hfr9⟩ : PutPd B xb (n + 1) w7.heap.size s who L9 v9 := hF
          have hXd : Exc (DK w7.heap.size xb none 0 0) w7 v9 := (Exc.of_ext hW).trans hE9
          have hX9 : Exc (DB B) w v9 := (Exc.of_ext hEw7).trans ⟨hXd.os, hXd.tape, hXd.output, hXd.size, fun k o hk hn => hXd.block k o hk (fun e => hn (e.2.elim (fun e => by subst e; exact db_of hk h7.hB h7.hd (by decide)) (fun e => by cases e)))⟩
          have ra9 := hRN v9 hE9
          have rm9 := hRM v9 hE9
          have ro9 := hXd.blk hf7.o (hnd (show ob ≠ xb by omega))
          have rr9 := hXd.blk hrb7 (hnd (show rb ≠ xb by omega))
          have hn9 : SetAtr w.heap.size nb none 0 v9 [] := ⟨hXd.blk hf7.n.hd (hnd (show nb ≠ xb by omega)), World.ownsRow_nil _ _ _ _, trivial, fun r h => by cases h⟩
          have hib9 : ∀ i, i < 3 → ((s.p.put who q9 A9 c9' L9).v i).ownBlock ≠ some ib := fun i hi e => by
            simp only [Tri.put, Tri.v] at e
            by_cases hiw : i = who
            · simp only [if_pos hiw] at e
              have := hfr9 ib e
              omega
            · simp only [if_neg hiw] at e
              have := hlpv i hi ib e
              omega
          have hbdi := hf7.bd
          have hlena := hf7.a.len
          have hlenb := hf7.b.len
          clear hK hN y6 z6 hRN hRM hEW hE9 hW hF0 hXd hnd hf7 hrb7
          go_wp2
          go_loopw [12] (fun iv wr => ∃ (k : Nat) (An : Option Addr) (cn : Nat), k ≤ m ∧ iv = .int .i64 k ∧ WorkAtd B xb (n + 1) wr { s with p := s.p.put who q9 A9 c9' L9 } ∧ SetAtr w.heap.size nb An cn wr ((IN2.take k).foldl addL []) ∧ RowNd w.heap.size wr ib (m + 2) IN2 ∧ RowMd w.heap.size wr lb (m + 2) LO2 ∧ wr.heap[ob]? = some (.cells (o.cut m) 89 (0, 0)) ∧ wr.heap[rb]? = some (.cells #[.int .u16 77, .int .u16 78] 220 (0, 0)) ∧ Exc (DB B) w wr) (fun iv _ => m - (intOf iv).toNat)
          case atStart => exact ⟨0, none, 0, Nat.zero_le _, rfl, h9, hn9, ra9, rm9, ro9, rr9, hX9⟩
          case round =>
            clear h9 hn9 ra9 rm9 ro9 rr9 hX9
            obtain ⟨k, An, cn, hk, rfl, hw, hn, ra, rm, ro, rr, hX⟩ := hrel
            have b6 := cell_of_row wr ob 6 _ _ _ ro
            simp only [Opn.cut, List.getElem?_toArray, List.getElem?_cons_zero, List.getElem?_cons_succ] at b6
            by_cases hlt : k < m
            · obtain ⟨x, hx⟩ : ∃ x, IN2[k]? = some x := ⟨_, List.getElem?_eq_getElem (by omega)⟩
              have hbx : Bdd x := hbdi x (List.mem_of_getElem? hx)
              have hfs : (IN2.take (k + 1)).foldl addL [] = addL ((IN2.take k).foldl addL []) x := by
                obtain ⟨h1, rfl⟩ := List.getElem?_eq_some_iff.1 hx
                rw [List.take_succ_eq_append_getElem (by exact h1), List.foldl_append]
                rfl
              have hll := foldl_addL_len (IN2.take k) []
              simp only [List.length_take, List.length_nil] at hll
              have HFS := Lib.hid hfs
              obtain ⟨Lk, hLk⟩ : ∃ L, (IN2.take k).foldl addL [] = L := ⟨_, rfl⟩
              rw [hLk] at hn hll hfs HFS
              clear hfs hLk
              have hkm1 : (k : Int) < (m : Int) := by omega
              have hkm2 : (k : Int) < (m : Int) + 2 := by omega
              have hsw := hX.size
              obtain ⟨xl, xh⟩ := x
              have hbx2 := hbx
              obtain ⟨⟨b1, b2⟩, b3, b4⟩ := hbx2
              simp only at b1 b2 b3 b4
              have hw1 : IntKind.i64.wrap xl = xl := by rw [IntKind.wrap_i64]; omega
              have hw2 : IntKind.i64.wrap xh = xh := by rw [IntKind.wrap_i64]; omega
              clear b6
              have hbb := cell_of_row wr ob 6 _ _ _ ro
              simp only [Opn.cut, List.getElem?_toArray, List.getElem?_cons_zero, List.getElem?_cons_succ] at hbb
              go_wp2
              refine wp_region_rg (Exc fun q _ => q = nb) (rel_exc _) (fun V => SetAtr w.heap.size nb An cn V Lk) [0, 1, 2, 3, 4, 5, 6, 7, 8, 9, 10, 11, 12, 13] (fun _ => none) (fun i => match i with
                | 13 => some fun _ z V => ∃ A c, SetAtr w.heap.size nb A c V (addL Lk ⟨xl, xh⟩)
                | _ => none) (fun _ => false) (by kernel_rfl) (by kernel_rfl) (fun _ _ h he => h.ext he) (hn.ext (Below.refl _ _).drew) (fun W N hW hF0 hN => ?_)
              have hEW : Exc (fun q _ => q = nb) W W := exc_refl _ _
              have e0 : ∀ w', Exc (fun q _ => q = nb) W w' → w'.cell? ⟨ib, k * 2, none⟩ = some (.int .u16 xl) := fun w' h' => (((ra.ext hW).one h' (by omega)).at hx).1
              have e1 : ∀ w', Exc (fun q _ => q = nb) W w' → w'.cell? ⟨ib, k * 2 + 1, none⟩ = some (.int .u16 xh) := fun w' h' => (((ra.ext hW).one h' (by omega)).at hx).2
              have hWs := hW.size
              repeat (first | (apply wpR_one; (case ho => (simp only [List.getElem?_toArray, List.getElem?_cons_succ, List.getElem?_cons_zero]; try exact rfl)); (case hw => rfl); (case hl => rfl); (case hsp => rfl); (case he => rfl); (case hv => (intro w' hw'; (try (have hw2 := Ext.trans hEW hw')); (try (have hw3 := Exc.trans hEW hw')); (try (have hw4 := Exk.trans hEW hw')); (try (have hw5 := Mrk.trans hEW hw')); go_simp; exact rfl)); (case hw0 => (first | exact Below.refl _ _ | exact Exc.of_ext (Below.refl _ _) | exact Exk.of_ext (Below.refl _ _) | exact Mrk.of_ext (Below.refl _ _))); simp only [Act.put, List.setIfInBounds_toArray, List.set_cons_succ, List.set_cons_zero]) | (apply wpR_early; (case ho => (simp only [List.getElem?_toArray, List.getElem?_cons_succ, List.getElem?_cons_zero]; try exact rfl)); (case hw => rfl); (case hl => rfl); (case hsp => rfl); (case he => rfl); (case hv => (intro w' hw'; (try have hw2 := Ext.trans hEW hw'); go_simp; exact rfl)); simp only [Act.put, List.setIfInBounds_toArray, List.set_cons_succ, List.set_cons_zero]) | (apply wpR_pass; (case ho => (simp only [List.getElem?_toArray, List.getElem?_cons_succ, List.getElem?_cons_zero]; try exact rfl)); (case hw => rfl); (case hl => rfl); simp only [Act.put, List.setIfInBounds_toArray, List.set_cons_succ, List.set_cons_zero]))
              refine wpR_late (by ((simp only [List.getElem?_toArray, List.getElem?_cons_succ, List.getElem?_cons_zero]; try exact rfl))) _ rfl rfl (fun V v w' w2 ⟨A, c, hh⟩ he => ⟨A, c, hh.ext he⟩) (fun V V' h => rfl) (fun w' hw' hK hF => ?_) (fun v hv => ?_)
              · have hF2 : SetAtr w.heap.size nb An cn w' Lk := hF
                have hs := hw'.size
                clear e0 e1
                unfold opAt; go_simp; refine upAt_enter ?_
                refine (radd_any hF2 (by omega) (bdr_ofd hbx) (by omega)).mono ?_
                rintro e w8 ⟨A8, c8, rfl, h8, hX8⟩
                exact ⟨_, rfl, hX8, A8, c8, h8⟩
              clear hv
              simp only [Act.put, List.setIfInBounds_toArray, List.set_cons_succ, List.set_cons_zero]
              repeat (first | (apply wpR_one; (case ho => (simp only [List.getElem?_toArray, List.getElem?_cons_succ, List.getElem?_cons_zero]; try exact rfl)); (case hw => rfl); (case hl => rfl); (case hsp => rfl); (case he => rfl); (case hv => (intro w' hw'; (try (have hw2 := Ext.trans hEW hw')); (try (have hw3 := Exc.trans hEW hw')); (try (have hw4 := Exk.trans hEW hw')); (try (have hw5 := Mrk.trans hEW hw')); go_simp; exact rfl)); (case hw0 => (first | exact Below.refl _ _ | exact Exc.of_ext (Below.refl _ _) | exact Exk.of_ext (Below.refl _ _) | exact Mrk.of_ext (Below.refl _ _))); simp only [Act.put, List.setIfInBounds_toArray, List.set_cons_succ, List.set_cons_zero]) | (apply wpR_early; (case ho => (simp only [List.getElem?_toArray, List.getElem?_cons_succ, List.getElem?_cons_zero]; try exact rfl)); (case hw => rfl); (case hl => rfl); (case hsp => rfl); (case he => rfl); (case hv => (intro w' hw'; (try have hw2 := Ext.trans hEW hw'); go_simp; exact rfl)); simp only [Act.put, List.setIfInBounds_toArray, List.set_cons_succ, List.set_cons_zero]) | (apply wpR_pass; (case ho => (simp only [List.getElem?_toArray, List.getElem?_cons_succ, List.getElem?_cons_zero]; try exact rfl)); (case hw => rfl); (case hl => rfl); simp only [Act.put, List.setIfInBounds_toArray, List.set_cons_succ, List.set_cons_zero]))
              apply wpR_nil
              apply hN
              intro w8 hE8 hK hF
              obtain ⟨A8, c8, h8⟩ : ∃ A c, SetAtr w.heap.size nb A c w8 (addL Lk ⟨xl, xh⟩) := hF
              have hX8 := (Exc.of_ext hW (D := fun q _ => q = nb)).trans hE8
              have hw8 : WorkAtd B xb (n + 1) w8 { s with p := s.p.put who q9 A9 c9' L9 } := hw.refset hX8 hn.hd (fun i hi e => by have := hlr i hi; simp only at e; omega) (fun x hx e => by have := hlq x hx; omega)
              have ra8 := ra.one hX8 (by omega)
              have rm8 := rm.one hX8 (by omega)
              have ro8 := hX8.blk ro (show ¬ ob = nb by omega)
              have rr8 := hX8.blk rr (show ¬ rb = nb by omega)
              have hXf := exc_fresh hX hX8 (by omega)
              rw [← HFS.out] at h8
              clear hK hN e0 e1 hEW hE8 hW hF0 hX8 hw hn ra rm ro rr hX hbb
              go_wp2
              go_roundw
              case rel => exact ⟨k + 1, A8, c8, by omega, by go_num, hw8, h8, ra8, rm8, ro8, rr8, hXf⟩
              case measure => simp [intOf]; omega
            · have hmk : m = k := by omega
              subst hmk
              rw [HL9.out] at hn
              go_wp2
              go_meet
              case rel => exact ⟨nb, q9, A9, An, c9', cn, L9, rfl, ⟨hw, ⟨hn.hd, own_mono hn.row hBw, hn.wf, hn.bd⟩, by omega, by omega, ra, rm, ro, rr, hib9, hX⟩⟩
        -- New
        · obtain ⟨L9, hL9⟩ : ∃ L, ((LO2.map one1).take m).foldl addL [] = L := ⟨_, rfl⟩
          have hlen9 := foldl_addL_len ((LO2.map one1).take m) []
          rw [hL9] at hlen9
          have htk : (LO2.take m).length = m := by rw [List.length_take, hf7.b.len]; omega
          have htk2 : ((LO2.map one1).take m).length = m := by rw [List.length_take, List.length_map, hf7.b.len]; omega
          rw [htk2, List.length_nil] at hlen9
          have y6 : ∀ W, Ext w7 W → W.cell? ⟨ob, 6, none⟩ = some (.slice o.A m o.c) := fun W hh => cell_of_row _ _ _ _ _ _ (hh.blk hf7.o)
          have HL9 := Lib.hid hL9
          have hmi2 : (m : Int) ≤ (m : Int) + 2 := by omega
          clear hL9
          have hbdm : ∀ z ∈ LO2.take m, 0 ≤ z ∧ z ≤ 65535 := fun z hz => by
            obtain ⟨j, hj, e⟩ := List.mem_iff_getElem.1 hz
            rw [htk] at hj
            obtain ⟨r, hr⟩ : ∃ r, o.L[j]? = some r := ⟨_, List.getElem?_eq_getElem (by omega)⟩
            have h1 := (HV1.out j r hj hr).2
            rw [List.getElem_take] at e
            have h2 : LO2[j]? = some z := by rw [← e]; exact List.getElem?_eq_getElem _
            rw [h1] at h2
            injection h2 with h2
            rw [← h2]
            exact kbdd r.lo
          go_wp2
          refine wp_region_rg (Exc (DK w7.heap.size xb none 0 0)) (rel_exc _) (fun V => WorkAtd B xb (n + 1) V s) [0, 1, 2, 3, 4, 5, 6, 7, 8, 9, 10, 11] (fun i => match i with
            | 7 => some fun _ z V => NewPd B w7.heap.size L9 z V
            | _ => none) (fun i => match i with
            | 11 => some fun V z W => PutPd B xb (n + 1) w7.heap.size s who L9 W
            | _ => none) (fun _ => false) (by kernel_rfl) (by kernel_rfl) (fun _ _ h he => h.ext he) (h7.ext (Below.refl _ _).drew) (fun W N hW hF0 hN => ?_)
          have hEW : Exc (DK w7.heap.size xb none 0 0) W W := exc_refl _ _
          have hnd : ∀ {a : Nat} {ob' : Obj}, a ≠ xb → ¬ DK w7.heap.size xb none 0 0 a ob' := fun ha e => e.2.elim (fun e => ha e) (fun e => by cases e)
          have hRN : ∀ w', Exc (DK w7.heap.size xb none 0 0) W w' → RowNd w.heap.size w' ib (m + 2) IN2 := fun w' h' => ⟨own_out (hf7.a.ext hW).own h' (fun b _ hb => hnd (by have e : ib = b := (by injection hb); omega)), hf7.a.len⟩
          have hRM : ∀ w', Exc (DK w7.heap.size xb none 0 0) W w' → RowMd w.heap.size w' lb (m + 2) LO2 := fun w' h' => ⟨own_out (hf7.b.ext hW).own h' (fun b _ hb => hnd (by have e : lb = b := (by injection hb); omega)), hf7.b.len⟩
          have z6 : ∀ w', Exc (DK w7.heap.size xb none 0 0) W w' → w'.cell? ⟨ob, 6, none⟩ = some (.slice o.A m o.c) := fun w' h' => cell_of_row _ _ _ _ _ _ (h'.blk (hW.blk hf7.o) (hnd (show ob ≠ xb by omega)))
          have hWs := hW.size
          repeat (first | (apply wpR_one; (case ho => (simp only [List.getElem?_toArray, List.getElem?_cons_succ, List.getElem?_cons_zero]; try exact rfl)); (case hw => rfl); (case hl => rfl); (case hsp => rfl); (case he => rfl); (case hv => (intro w' hw'; (try (have hw2 := Ext.trans hEW hw')); (try (have hw3 := Exc.trans hEW hw')); (try (have hw4 := Exk.trans hEW hw')); (try (have hw5 := Mrk.trans hEW hw')); go_simp; exact rfl)); (case hw0 => (first | exact Below.refl _ _ | exact Exc.of_ext (Below.refl _ _) | exact Exk.of_ext (Below.refl _ _) | exact Mrk.of_ext (Below.refl _ _))); simp only [Act.put, List.setIfInBounds_toArray, List.set_cons_succ, List.set_cons_zero]) | (apply wpR_early; (case ho => (simp only [List.getElem?_toArray, List.getElem?_cons_succ, List.getElem?_cons_zero]; try exact rfl)); (case hw => rfl); (case hl => rfl); (case hsp => rfl); (case he => rfl); (case hv => (intro w' hw'; (try have hw2 := Ext.trans hEW hw'); go_simp; exact rfl)); simp only [Act.put, List.setIfInBounds_toArray, List.set_cons_succ, List.set_cons_zero]) | (apply wpR_pass; (case ho => (simp only [List.getElem?_toArray, List.getElem?_cons_succ, List.getElem?_cons_zero]; try exact rfl)); (case hw => rfl); (case hl => rfl); simp only [Act.put, List.setIfInBounds_toArray, List.set_cons_succ, List.set_cons_zero]))
          refine wpR_new (by ((simp only [List.getElem?_toArray, List.getElem?_cons_succ, List.getElem?_cons_zero]; try exact rfl))) _ rfl rfl rfl (fun V v => NewPd.lasts _ _ _ _ _ _ _ _) (fun V V' h => rfl) (fun w' hw' hK => ?_) (fun z hz => ?_)
          · have hs := hw'.size
            have hRMw := hRM w' hw'
            have hpre : NLd w' (some ⟨lb, 0, none⟩) (m + 2) (LO2.take m) := ⟨fun _ => ⟨lb, 0, rfl, fun i z hz => by
              rw [Nat.zero_add]
              rw [List.getElem?_take] at hz
              split at hz
              · exact (hRMw.at hz).1
              · cases hz⟩, by rw [htk]; omega, hbdm⟩
            clear z6 y6
            have HOF := new_anyd (w := w') (l := LO2.take m) hpre (by simp; omega)
            rw [htk] at HOF
            unfold opAt; go_simp; refine upAt_enter ?_
            refine HOF.mono ?_
            rintro e w8 ⟨q, A8, c8, rfl, hq8, h8, hE8⟩
            rw [List.map_take] at h8
            rw [HL9.out] at h8
            exact ⟨_, rfl, hE8, q, A8, c8, rfl, by omega, ⟨h8.hd, own_mono h8.row (by omega), h8.wf, h8.bd⟩, fun q hq => by have := (World.ownsRow.lt h8.row q hq).1; omega⟩
          obtain ⟨_, _, _, qp, _, _, rfl, _⟩ := hz
          simp only [Act.put, List.setIfInBounds_toArray, List.set_cons_succ, List.set_cons_zero]
          repeat (first | (apply wpR_one; (case ho => (simp only [List.getElem?_toArray, List.getElem?_cons_succ, List.getElem?_cons_zero]; try exact rfl)); (case hw => rfl); (case hl => rfl); (case hsp => rfl); (case he => rfl); (case hv => (intro w' hw'; (try (have hw2 := Ext.trans hEW hw')); (try (have hw3 := Exc.trans hEW hw')); (try (have hw4 := Exk.trans hEW hw')); (try (have hw5 := Mrk.trans hEW hw')); go_simp; exact rfl)); (case hw0 => (first | exact Below.refl _ _ | exact Exc.of_ext (Below.refl _ _) | exact Exk.of_ext (Below.refl _ _) | exact Mrk.of_ext (Below.refl _ _))); simp only [Act.put, List.setIfInBounds_toArray, List.set_cons_succ, List.set_cons_zero]) | (apply wpR_early; (case ho => (simp only [List.getElem?_toArray, List.getElem?_cons_succ, List.getElem?_cons_zero]; try exact rfl)); (case hw => rfl); (case hl => rfl); (case hsp => rfl); (case he => rfl); (case hv => (intro w' hw'; (try have hw2 := Ext.trans hEW hw'); go_simp; exact rfl)); simp only [Act.put, List.setIfInBounds_toArray, List.set_cons_succ, List.set_cons_zero]) | (apply wpR_pass; (case ho => (simp only [List.getElem?_toArray, List.getElem?_cons_succ, List.getElem?_cons_zero]; try exact rfl)); (case hw => rfl); (case hl => rfl); simp only [Act.put, List.setIfInBounds_toArray, List.set_cons_succ, List.set_cons_zero]))
          refine wpR_late (by ((simp only [List.getElem?_toArray, List.getElem?_cons_succ, List.getElem?_cons_zero]; try exact rfl))) _ rfl rfl (fun V v => PutPd.lasts _ _ _ _ _ _ _) (fun V V' h => rfl) (fun w' hw' hK hF => ?_) (fun v hv => ?_)
          · have hF2 : WorkAtd B xb (n + 1) w' s := hF
            have hfin := putP_stored hF2 hw3 (hK 7 (by kernel_rfl)).2 hB7 (by omega) hlp hlt
            have c4 := cell_of_row w' xb who _ _ _ hF2.hd
            rw [wk_p s hw3] at c4
            have f4 := frozen_of_row w' xb who _ _ hF2.hd
            have hxc : Exc (DK w7.heap.size xb none 0 0) w' (w'.setCell ⟨xb, who, none⟩ (.pointer (some ⟨qp, 0, none⟩))) := by
              have hx := setCell_excr w' xb who (.pointer (some ⟨qp, 0, none⟩))
              exact ⟨hx.os, hx.tape, hx.output, hx.size, fun k o hk hn => hx.block k o hk (fun e => hn ⟨by omega, .inl e⟩)⟩
            clear z6 y6 hF2 hK
            unfold opAt
            go_simp
            exact ⟨undef, rfl, hxc, hfin⟩
          clear hv
          simp only [Act.put, List.setIfInBounds_toArray, List.set_cons_succ, List.set_cons_zero]
          apply wpR_nil
          apply hN
          intro v9 hE9 hK hF
          obtain ⟨q9, A9, c9', h9, hfr9⟩ : PutPd B xb (n + 1) w7.heap.size s who L9 v9 := hF
          have hXd : Exc (DK w7.heap.size xb none 0 0) w7 v9 := (Exc.of_ext hW).trans hE9
          have hX9 : Exc (DB B) w v9 := (Exc.of_ext hEw7).trans ⟨hXd.os, hXd.tape, hXd.output, hXd.size, fun k o hk hn => hXd.block k o hk (fun e => hn (e.2.elim (fun e => by subst e; exact db_of hk h7.hB h7.hd (by decide)) (fun e => by cases e)))⟩
          have ra9 := hRN v9 hE9
          have rm9 := hRM v9 hE9
          have ro9 := hXd.blk hf7.o (hnd (show ob ≠ xb by omega))
          have rr9 := hXd.blk hrb7 (hnd (show rb ≠ xb by omega))
          have hn9 : SetAtr w.heap.size nb none 0 v9 [] := ⟨hXd.blk hf7.n.hd (hnd (show nb ≠ xb by omega)), World.ownsRow_nil _ _ _ _, trivial, fun r h => by cases h⟩
          have hib9 : ∀ i, i < 3 → ((s.p.put who q9 A9 c9' L9).v i).ownBlock ≠ some ib := fun i hi e => by
            simp only [Tri.put, Tri.v] at e
            by_cases hiw : i = who
            · simp only [if_pos hiw] at e
              have := hfr9 ib e
              omega
            · simp only [if_neg hiw] at e
              have := hlpv i hi ib e
              omega
          have hbdi := hf7.bd
          have hlena := hf7.a.len
          have hlenb := hf7.b.len
          clear hK hN y6 z6 hRN hRM hEW hE9 hW hF0 hXd hnd hf7 hrb7
          go_wp2
          go_loopw [13] (fun iv wr => ∃ (k : Nat) (An : Option Addr) (cn : Nat), k ≤ m ∧ iv = .int .i64 k ∧ WorkAtd B xb (n + 1) wr { s with p := s.p.put who q9 A9 c9' L9 } ∧ SetAtr w.heap.size nb An cn wr (((LO2.map one1).take k).foldl addL []) ∧ RowNd w.heap.size wr ib (m + 2) IN2 ∧ RowMd w.heap.size wr lb (m + 2) LO2 ∧ wr.heap[ob]? = some (.cells (o.cut m) 89 (0, 0)) ∧ wr.heap[rb]? = some (.cells #[.int .u16 77, .int .u16 78] 220 (0, 0)) ∧ Exc (DB B) w wr) (fun iv _ => m - (intOf iv).toNat)
          case atStart => exact ⟨0, none, 0, Nat.zero_le _, rfl, h9, hn9, ra9, rm9, ro9, rr9, hX9⟩
          case round =>
            clear h9 hn9 ra9 rm9 ro9 rr9 hX9
            obtain ⟨k, An, cn, hk, rfl, hw, hn, ra, rm, ro, rr, hX⟩ := hrel
            have b6 := cell_of_row wr ob 6 _ _ _ ro
            simp only [Opn.cut, List.getElem?_toArray, List.getElem?_cons_zero, List.getElem?_cons_succ] at b6
            by_cases hlt : k < m
            · obtain ⟨x, hx⟩ : ∃ x, LO2[k]? = some x := ⟨_, List.getElem?_eq_getElem (by omega)⟩
              have hbx : Bdd (one1 x) := by
                have h1 : x ∈ LO2.take m := List.mem_of_getElem? (i := k) (by rw [List.getElem?_take, if_pos hlt]; exact hx)
                exact ⟨hbdm x h1, hbdm x h1⟩
              have hfs : ((LO2.map one1).take (k + 1)).foldl addL [] = addL (((LO2.map one1).take k).foldl addL []) (one1 x) := by
                obtain ⟨h1, rfl⟩ := List.getElem?_eq_some_iff.1 hx
                rw [List.take_succ_eq_append_getElem (by rw [List.length_map]; exact h1), List.foldl_append, List.getElem_map]
                rfl
              have hll := foldl_addL_len ((LO2.map one1).take k) []
              simp only [List.length_take, List.length_nil] at hll
              have HFS := Lib.hid hfs
              obtain ⟨Lk, hLk⟩ : ∃ L, ((LO2.map one1).take k).foldl addL [] = L := ⟨_, rfl⟩
              rw [hLk] at hn hll hfs HFS
              clear hfs hLk
              have hkm1 : (k : Int) < (m : Int) := by omega
              have hkm2 : (k : Int) < (m : Int) + 2 := by omega
              have hsw := hX.size
              have hbx2 := hbx.1
              simp only [one1] at hbx2
              have hw1 : IntKind.i64.wrap x = x := by rw [IntKind.wrap_i64]; omega
              clear b6
              have hbb := cell_of_row wr ob 6 _ _ _ ro
              simp only [Opn.cut, List.getElem?_toArray, List.getElem?_cons_zero, List.getElem?_cons_succ] at hbb
              go_wp2
              refine wp_region_rg (Exc fun q _ => q = nb) (rel_exc _) (fun V => SetAtr w.heap.size nb An cn V Lk) [0, 1, 2, 3, 4, 5, 6, 7, 8, 9, 10, 11] (fun _ => none) (fun i => match i with
                | 11 => some fun _ z V => ∃ A c, SetAtr w.heap.size nb A c V (addL Lk (one1 x))
                | _ => none) (fun _ => false) (by kernel_rfl) (by kernel_rfl) (fun _ _ h he => h.ext he) (hn.ext (Below.refl _ _).drew) (fun W N hW hF0 hN => ?_)
              have hEW : Exc (fun q _ => q = nb) W W := exc_refl _ _
              have e0 : ∀ w', Exc (fun q _ => q = nb) W w' → w'.cell? ⟨lb, k, none⟩ = some (.int .u16 x) := fun w' h' => (((rm.ext hW).one h' (by omega)).at hx).1
              have hWs := hW.size
              repeat (first | (apply wpR_one; (case ho => (simp only [List.getElem?_toArray, List.getElem?_cons_succ, List.getElem?_cons_zero]; try exact rfl)); (case hw => rfl); (case hl => rfl); (case hsp => rfl); (case he => rfl); (case hv => (intro w' hw'; (try (have hw2 := Ext.trans hEW hw')); (try (have hw3 := Exc.trans hEW hw')); (try (have hw4 := Exk.trans hEW hw')); (try (have hw5 := Mrk.trans hEW hw')); go_simp; exact rfl)); (case hw0 => (first | exact Below.refl _ _ | exact Exc.of_ext (Below.refl _ _) | exact Exk.of_ext (Below.refl _ _) | exact Mrk.of_ext (Below.refl _ _))); simp only [Act.put, List.setIfInBounds_toArray, List.set_cons_succ, List.set_cons_zero]) | (apply wpR_early; (case ho => (simp only [List.getElem?_toArray, List.getElem?_cons_succ, List.getElem?_cons_zero]; try exact rfl)); (case hw => rfl); (case hl => rfl); (case hsp => rfl); (case he => rfl); (case hv => (intro w' hw'; (try have hw2 := Ext.trans hEW hw'); go_simp; exact rfl)); simp only [Act.put, List.setIfInBounds_toArray, List.set_cons_succ, List.set_cons_zero]) | (apply wpR_pass; (case ho => (simp only [List.getElem?_toArray, List.getElem?_cons_succ, List.getElem?_cons_zero]; try exact rfl)); (case hw => rfl); (case hl => rfl); simp only [Act.put, List.setIfInBounds_toArray, List.set_cons_succ, List.set_cons_zero]))
              refine wpR_late (by ((simp only [List.getElem?_toArray, List.getElem?_cons_succ, List.getElem?_cons_zero]; try exact rfl))) _ rfl rfl (fun V v w' w2 ⟨A, c, hh⟩ he => ⟨A, c, hh.ext he⟩) (fun V V' h => rfl) (fun w' hw' hK hF => ?_) (fun v hv => ?_)
              · have hF2 : SetAtr w.heap.size nb An cn w' Lk := hF
                have hs := hw'.size
                clear e0
                unfold opAt; go_simp; refine upAt_enter ?_
                refine (radd_any hF2 (by omega) (bdr_ofd hbx) (by omega)).mono ?_
                rintro e w8 ⟨A8, c8, rfl, h8, hX8⟩
                exact ⟨_, rfl, hX8, A8, c8, h8⟩
              clear hv
              simp only [Act.put, List.setIfInBounds_toArray, List.set_cons_succ, List.set_cons_zero]
              repeat (first | (apply wpR_one; (case ho => (simp only [List.getElem?_toArray, List.getElem?_cons_succ, List.getElem?_cons_zero]; try exact rfl)); (case hw => rfl); (case hl => rfl); (case hsp => rfl); (case he => rfl); (case hv => (intro w' hw'; (try (have hw2 := Ext.trans hEW hw')); (try (have hw3 := Exc.trans hEW hw')); (try (have hw4 := Exk.trans hEW hw')); (try (have hw5 := Mrk.trans hEW hw')); go_simp; exact rfl)); (case hw0 => (first | exact Below.refl _ _ | exact Exc.of_ext (Below.refl _ _) | exact Exk.of_ext (Below.refl _ _) | exact Mrk.of_ext (Below.refl _ _))); simp only [Act.put, List.setIfInBounds_toArray, List.set_cons_succ, List.set_cons_zero]) | (apply wpR_early; (case ho => (simp only [List.getElem?_toArray, List.getElem?_cons_succ, List.getElem?_cons_zero]; try exact rfl)); (case hw => rfl); (case hl => rfl); (case hsp => rfl); (case he => rfl); (case hv => (intro w' hw'; (try have hw2 := Ext.trans hEW hw'); go_simp; exact rfl)); simp only [Act.put, List.setIfInBounds_toArray, List.set_cons_succ, List.set_cons_zero]) | (apply wpR_pass; (case ho => (simp only [List.getElem?_toArray, List.getElem?_cons_succ, List.getElem?_cons_zero]; try exact rfl)); (case hw => rfl); (case hl => rfl); simp only [Act.put, List.setIfInBounds_toArray, List.set_cons_succ, List.set_cons_zero]))
              apply wpR_nil
              apply hN
              intro w8 hE8 hK hF
              obtain ⟨A8, c8, h8⟩ : ∃ A c, SetAtr w.heap.size nb A c w8 (addL Lk (one1 x)) := hF
              have hX8 := (Exc.of_ext hW (D := fun q _ => q = nb)).trans hE8
              have hw8 : WorkAtd B xb (n + 1) w8 { s with p := s.p.put who q9 A9 c9' L9 } := hw.refset hX8 hn.hd (fun i hi e => by have := hlr i hi; simp only at e; omega) (fun x hx e => by have := hlq x hx; omega)
              have ra8 := ra.one hX8 (by omega)
              have rm8 := rm.one hX8 (by omega)
              have ro8 := hX8.blk ro (show ¬ ob = nb by omega)
              have rr8 := hX8.blk rr (show ¬ rb = nb by omega)
              have hXf := exc_fresh hX hX8 (by omega)
              rw [← HFS.out] at h8
              clear hK hN e0 hEW hE8 hW hF0 hX8 hw hn ra rm ro rr hX hbb
              go_wp2
              go_roundw
              case rel => exact ⟨k + 1, A8, c8, by omega, by go_num, hw8, h8, ra8, rm8, ro8, rr8, hXf⟩
              case measure => simp [intOf]; omega
            · have hmk : m = k := by omega
              subst hmk
              rw [HL9.out] at hn
              go_wp2
              go_meet
              case rel => exact ⟨nb, q9, A9, An, c9', cn, L9, rfl, ⟨hw, ⟨hn.hd, own_mono hn.row hBw, hn.wf, hn.bd⟩, by omega, by omega, ra, rm, ro, rr, hib9, hX⟩⟩
        -- «/ARMS»
      case rest =>
        obtain ⟨nq, q9, A9, An, c9', cn, L9, rfl, hM⟩ := hcut
        rename World => v9
        obtain ⟨h9, hn9, hl9, hnq, ra9, rm9, ro9, rr9, hib9, hX9⟩ := hM
        have hBn : B ≤ nq := by omega
        clear hlp hlt hrb7 hf7 h7 o0
        -- the ending: x.r[who] = next, what came in is as it was, marked
        have hq1 : ∀ i, i < 3 → s.r.P i ≠ nq := fun i hi e => by have := hlr i hi; omega
        have hq2 : ∀ x ∈ s.ws, x.q ≠ nq := fun x hx e => by have := hlq x hx; omega
        have c9 := cell_of_row v9 xb (3 + who) _ _ _ h9.hd
        rw [wk_r _ hw3] at c9
        have f9 := frozen_of_row v9 xb (3 + who) _ _ h9.hd
        have h10 : WorkAtd B xb (n + 1) (v9.setCell ⟨xb, 3 + who, none⟩ (.pointer (some ⟨nq, 0, none⟩))) { s with p := s.p.put who q9 A9 c9' L9, r := s.r.put who nq An cn L9 } :=
          WorkAtd.stored h9.hd h9.hB (h9.pt.newR hw3 hn9 hBn (fun j hj _ => hq1 j hj) hl9 hq2) (wk_setr { s with p := s.p.put who q9 A9 c9' L9 } hw3 nq An cn L9)
        have hx10 := setCell_excr v9 xb (3 + who) (.pointer (some ⟨nq, 0, none⟩))
        have ra10 := ra9.one hx10 (by omega)
        have rm10 := rm9.one hx10 (by omega)
        have ro10 := hx10.blk ro9 (show ¬ ob = xb by omega)
        have rr10 := hx10.blk rr9 (show ¬ rb = xb by omega)
        have hX10 := hX9.trans (one_op hx10 h9.hB h9.hd (by decide))
        have hsz9 := hX9.size
        clear hx10 ra9 rm9 ro9 rr9 hX9 hn9 h9
        go_wp2
        refine wp_cut (fun V => WorkAtd B xb (n + 1) V { s with p := s.p.put who q9 A9 c9' L9, r := s.r.put who nq An cn L9 } ∧ RowNd w.heap.size V ib (m + 2) IN2 ∧ RowMd w.heap.size V lb (m + 2) LO2 ∧ V.heap[ob]? = some (.cells (o.cut m) 89 (0, 0)) ∧ V.heap[rb]? = some (.cells #[.int .u16 77, .int .u16 78] 220 (0, 0)) ∧ Exc (DB B) w V) ⟨h10, ra10, rm10, ro10, rr10, hX10⟩ ?_
        clear h10 ra10 rm10 ro10 rr10 hX10 c9 f9
        rintro w10 ⟨h10, ra10, rm10, ro10, rr10, hX10⟩
        have hwm1 : IntKind.i64.wrap ((m : Int) + 1) = (m : Int) + 1 := by rw [IntKind.wrap_i64]; omega
        have heqR : ∀ (x y : Rn) (W : World), (binOp .eql 220 (.agg #[.int .u16 x.lo, .int .u16 x.hi]) (.agg #[.int .u16 y.lo, .int .u16 y.hi])).run Try.prog W = .ok (.bool (decide (x = y))) W := fun x y W => eqlRd x y W
        have hroom : (binOp .eql 220 (.agg #[.int .u16 77, .int .u16 78]) (.agg #[.int .u16 77, .int .u16 78])).run Try.prog = fun W => .ok (.bool true) W := by
          funext W
          have := eqlRd room room W
          rw [decide_eq_true rfl] at this
          exact this
        have hroomW : ∀ W, (binOp .eql 220 (.agg #[.int .u16 77, .int .u16 78]) (.agg #[.int .u16 77, .int .u16 78])).run Try.prog W = .ok (.bool true) W := fun W => by rw [hroom]
        obtain ⟨hv1, hv2, hv3, hv4⟩ := HV2.out
        have a0 : ∀ W, Ext w10 W → W.cell? ⟨ib, m * 2, none⟩ = some (.int .u16 77) := fun W hh => ((ra10.ext hh).at hv1).1
        have a1 : ∀ W, Ext w10 W → W.cell? ⟨ib, m * 2 + 1, none⟩ = some (.int .u16 78) := fun W hh => ((ra10.ext hh).at hv1).2
        have a2 : ∀ W, Ext w10 W → W.cell? ⟨ib, (m + 1) * 2, none⟩ = some (.int .u16 77) := fun W hh => ((ra10.ext hh).at hv2).1
        have a3 : ∀ W, Ext w10 W → W.cell? ⟨ib, (m + 1) * 2 + 1, none⟩ = some (.int .u16 78) := fun W hh => ((ra10.ext hh).at hv2).2
        have a4 : ∀ W, Ext w10 W → W.cell? ⟨lb, m, none⟩ = some (.int .u16 77) := fun W hh => ((rm10.ext hh).at hv3).1
        have a5 : ∀ W, Ext w10 W → W.cell? ⟨lb, m + 1, none⟩ = some (.int .u16 77) := fun W hh => ((rm10.ext hh).at hv4).1
        have a6 : ∀ W, Ext w10 W → W.cell? ⟨ob, 6, none⟩ = some (.slice o.A m o.c) := fun W hh => cell_of_row _ _ _ _ _ _ (hh.blk ro10)
        have a7 : ∀ W, Ext w10 W → W.cell? ⟨rb, 0, none⟩ = some (.int .u16 77) := fun W hh => cell_of_row _ _ _ _ _ _ (hh.blk rr10)
        have a8 : ∀ W, Ext w10 W → W.cell? ⟨rb, 1, none⟩ = some (.int .u16 78) := fun W hh => cell_of_row _ _ _ _ _ _ (hh.blk rr10)
        clear hv1 hv2 hv3 hv4 hroom
        refine wp_region_rg Ext rel_ext (fun _ => True) [0, 1, 2, 3, 4, 5, 6, 7, 8, 9, 10, 11, 12, 13, 14, 15, 16, 17, 18, 19, 20, 21, 22, 23, 24, 25, 26, 27, 28, 29, 30, 31, 32, 33, 34, 35, 36, 37, 38] (fun _ => none) (fun _ => none) (fun _ => false) (by kernel_rfl) (by kernel_rfl) (fun _ _ _ _ => trivial) trivial (fun W N hW _ hN => ?_)
        have hEW := hW
        repeat (first | (apply wpR_one; (case ho => (simp only [List.getElem?_toArray, List.getElem?_cons_succ, List.getElem?_cons_zero]; try exact rfl)); (case hw => rfl); (case hl => rfl); (case hsp => rfl); (case he => rfl); (case hv => (intro w' hw'; (try (have hw2 := Ext.trans hEW hw')); (try (have hw3 := Exc.trans hEW hw')); (try (have hw4 := Exk.trans hEW hw')); (try (have hw5 := Mrk.trans hEW hw')); go_simp; exact rfl)); (case hw0 => (first | exact Below.refl _ _ | exact Exc.of_ext (Below.refl _ _) | exact Exk.of_ext (Below.refl _ _) | exact Mrk.of_ext (Below.refl _ _))); simp only [Act.put, List.setIfInBounds_toArray, List.set_cons_succ, List.set_cons_zero]) | (apply wpR_early; (case ho => (simp only [List.getElem?_toArray, List.getElem?_cons_succ, List.getElem?_cons_zero]; try exact rfl)); (case hw => rfl); (case hl => rfl); (case hsp => rfl); (case he => rfl); (case hv => (intro w' hw'; (try have hw2 := Ext.trans hEW hw'); go_simp; exact rfl)); simp only [Act.put, List.setIfInBounds_toArray, List.set_cons_succ, List.set_cons_zero]) | (apply wpR_pass; (case ho => (simp only [List.getElem?_toArray, List.getElem?_cons_succ, List.getElem?_cons_zero]; try exact rfl)); (case hw => rfl); (case hl => rfl); simp only [Act.put, List.setIfInBounds_toArray, List.set_cons_succ, List.set_cons_zero]))
        apply wpR_nil
        apply hN
        intro w11 hE11 hK _
        have hEE := hEW.trans hE11
        have h11 := h10.ext hEE
        have ra11 := ra10.ext hEE
        have rm11 := rm10.ext hEE
        have ro11 := hEE.blk ro10
        have rr11 := hEE.blk rr10
        have hX11 := hX10.trans (Exc.of_ext hEE)
        clear hK hN hW hEW hE11 a0 a1 a2 a3 a4 a5 a6 a7 a8 h10 ra10 rm10 ro10 rr10 hX10 hEE hroomW hwm1
        go_wp2
        go_loopw [14, 15] (fun okv iv wr => ∃ (k : Nat) (IN : List Rn) (LO : List Int), k ≤ m ∧ iv = .int .i64 k ∧ okv = .bool true ∧ WorkAtd B xb (n + 1) wr { s with p := s.p.put who q9 A9 c9' L9, r := s.r.put who nq An cn L9 } ∧ RowNd w.heap.size wr ib (m + 2) IN ∧ RowMd w.heap.size wr lb (m + 2) LO ∧ wr.heap[ob]? = some (.cells (o.cut m) 89 (0, 0)) ∧ wr.heap[rb]? = some (.cells #[.int .u16 77, .int .u16 78] 220 (0, 0)) ∧ Hid (∀ (j : Nat) (r : Rn), k ≤ j → j < m → o.L[j]? = some r → IN[j]? = some (cvd r) ∧ LO[j]? = some (cvd r).lo) ∧ Exc (DB B) w wr) (fun _ iv _ => m - (intOf iv).toNat)
        case atStart => exact ⟨0, IN2, LO2, Nat.zero_le _, rfl, rfl, h11, ra11, rm11, ro11, rr11, Lib.hid (fun j r _ hj hr => HV1.out j r hj hr), hX11⟩
        case round =>
          clear h11 ra11 rm11 ro11 rr11 hX11
          obtain ⟨k, IN, LO, hk, rfl, rfl, hw, ra, rm, ro, rr, HV, hX⟩ := hrel
          rename World => v
          have b6 : ∀ W, Ext v W → W.cell? ⟨ob, 6, none⟩ = some (.slice o.A m o.c) := fun W hh => cell_of_row _ _ _ _ _ _ (hh.blk ro)
          have b6' := b6 v (Below.refl _ _)
          by_cases hlt : k < m
          · obtain ⟨r, hr⟩ : ∃ r, o.L[k]? = some r := ⟨_, List.getElem?_eq_getElem (by omega)⟩
            obtain ⟨b, off, hA, hbB, hrd⟩ := ho.at hr
            obtain ⟨g1, g2⟩ := HV.out k r (Nat.le_refl _) hlt hr
            rw [hA] at b6 b6'
            have hkm2 : (k : Int) < (m : Int) + 2 := by omega
            have hkm1 : (k : Int) < (m : Int) := by omega
            have hkc : k < m + 2 := by omega
            have d0 : ∀ W, Ext v W → W.cell? ⟨ib, k * 2, none⟩ = some (.int .u16 (IntKind.wrap .u16 r.lo)) := fun W hh => ((ra.ext hh).at g1).1
            have d1 : ∀ W, Ext v W → W.cell? ⟨ib, k * 2 + 1, none⟩ = some (.int .u16 (IntKind.wrap .u16 r.hi)) := fun W hh => ((ra.ext hh).at g1).2
            have d2 : ∀ W, Ext v W → W.cell? ⟨lb, k, none⟩ = some (.int .u16 (IntKind.wrap .u16 r.lo)) := fun W hh => ((rm.ext hh).at g2).1
            have hvs := hX.size
            have hBel : ∀ W, Ext v W → Below B w W := fun W hh => (below_exc (exc_db hX) hBw).trans (hh.mono (by omega))
            have d3 : ∀ W, Ext v W → W.cell? ⟨b, off + k * 2, none⟩ = some (.int .i64 r.lo) := fun W hh => (hrd W (hBel W hh)).1
            have d4 : ∀ W, Ext v W → W.cell? ⟨b, off + k * 2 + 1, none⟩ = some (.int .i64 r.hi) := fun W hh => (hrd W (hBel W hh)).2
            have hself : ∀ W, (binOp .eql 220 (.agg #[.int .u16 (IntKind.wrap .u16 r.lo), .int .u16 (IntKind.wrap .u16 r.hi)]) (.agg #[.int .u16 (IntKind.wrap .u16 r.lo), .int .u16 (IntKind.wrap .u16 r.hi)])).run Try.prog W = .ok (.bool true) W := fun W => by
              have := eqlRd (cvd r) (cvd r) W
              rw [decide_eq_true rfl] at this
              exact this
            clear heqR hA
            go_wp2
            refine wp_region_rg Ext rel_ext (fun _ => True) [0, 1, 2, 3, 4, 5, 6, 7, 8, 9, 10, 11, 12, 13, 14, 15, 16, 17, 18, 19, 20, 21, 22, 23, 24, 25, 26, 27, 28, 29, 30, 31, 32, 33, 34, 35] (fun _ => none) (fun _ => none) (fun _ => false) (by kernel_rfl) (by kernel_rfl) (fun _ _ _ _ => trivial) trivial (fun W N hW _ hN => ?_)
            have hEW := hW
            repeat (first | (apply wpR_one; (case ho => (simp only [List.getElem?_toArray, List.getElem?_cons_succ, List.getElem?_cons_zero]; try exact rfl)); (case hw => rfl); (case hl => rfl); (case hsp => rfl); (case he => rfl); (case hv => (intro w' hw'; (try (have hw2 := Ext.trans hEW hw')); (try (have hw3 := Exc.trans hEW hw')); (try (have hw4 := Exk.trans hEW hw')); (try (have hw5 := Mrk.trans hEW hw')); go_simp; exact rfl)); (case hw0 => (first | exact Below.refl _ _ | exact Exc.of_ext (Below.refl _ _) | exact Exk.of_ext (Below.refl _ _) | exact Mrk.of_ext (Below.refl _ _))); simp only [Act.put, List.setIfInBounds_toArray, List.set_cons_succ, List.set_cons_zero]) | (apply wpR_early; (case ho => (simp only [List.getElem?_toArray, List.getElem?_cons_succ, List.getElem?_cons_zero]; try exact rfl)); (case hw => rfl); (case hl => rfl); (case hsp => rfl); (case he => rfl); (case hv => (intro w' hw'; (try have hw2 := Ext.trans hEW hw'); go_simp; exact rfl)); simp only [Act.put, List.setIfInBounds_toArray, List.set_cons_succ, List.set_cons_zero]) | (apply wpR_pass; (case ho => (simp only [List.getElem?_toArray, List.getElem?_cons_succ, List.getElem?_cons_zero]; try exact rfl)); (case hw => rfl); (case hl => rfl); simp only [Act.put, List.setIfInBounds_toArray, List.set_cons_succ, List.set_cons_zero]))
            apply wpR_nil
            apply hN
            intro w12 hE12 hK _
            have hEE := hEW.trans hE12
            have hw12 := hw.ext hEE
            have ra12 := ra.ext hEE
            have rm12 := rm.ext hEE
            have ro12 := hEE.blk ro
            have rr12 := hEE.blk rr
            have hX12 := hX.trans (Exc.of_ext hEE)
            have hk1 : k < IN.length := by rw [ra.len]; omega
            have hk2 : k < LO.length := by rw [rm.len]; omega
            have r0 := cell_of_row _ _ 0 _ _ _ rr12
            have r1 := cell_of_row _ _ 1 _ _ _ rr12
            simp only [List.getElem?_toArray, List.getElem?_cons_zero, List.getElem?_cons_succ] at r0 r1
            clear hK hN hW hEW hE12 d0 d1 d2 d3 d4 b6 b6' hself hEE hw ra rm ro rr hX
            go_wp2_with (refine wpList_store_own rfl 220 (.tmp 278) (.tmp 277) rfl ib (m + 2) (m + 2) (rcd room) rfl rfl ra12.own hkc rfl (by kernel_rfl) (store_rund _) ?_; intro w13 ho13 hg13; have hx13 : Exc (fun q _ => q = ib) w12 w13 := Exc.of_grown hg13 (fun q o h _ => by injection h with h; exact h.symm); have rm13 := rm12.one hx13 (by omega); obtain ⟨e1, e2⟩ := rm13.at g2)
            have ra13 := ra12.set hkc ho13
            have hw13 : WorkAtd B xb (n + 1) w13 { s with p := s.p.put who q9 A9 c9' L9, r := s.r.put who nq An cn L9 } := hw12.rowone hx13 (own_ty ra12.own) hib9 hibt hibw
            have ro13 := hx13.blk ro12 (show ¬ ob = ib by omega)
            have rr13 := hx13.blk rr12 (show ¬ rb = ib by omega)
            have hst := rm13.set (k := k) 77
            have hx14 := setCell_excr w13 lb k (.int .u16 77)
            obtain ⟨y, hlby⟩ := own_ty1 rm13.own
            have hw14 : WorkAtd B xb (n + 1) (w13.setCell ⟨lb, k, none⟩ (.int .u16 77)) { s with p := s.p.put who q9 A9 c9' L9, r := s.r.put who nq An cn L9 } := ⟨hx14.blk hw13.hd (by omega), hw13.hB, hw13.pt.other hx14 hlby (by decide) (by decide) (by decide) (by decide) (by decide) (by decide) (by decide)⟩
            have ra14 := ra13.one hx14 (by omega)
            have ro14 := hx14.blk ro13 (show ¬ ob = lb by omega)
            have rr14 := hx14.blk rr13 (show ¬ rb = lb by omega)
            have hX14 := exc_fresh (exc_fresh hX12 hx13 (by omega)) hx14 (by omega)
            have HV2' : Hid (∀ (j : Nat) (x : Rn), k + 1 ≤ j → j < m → o.L[j]? = some x → (IN.set k room)[j]? = some (cvd x) ∧ (LO.set k 77)[j]? = some (cvd x).lo) := Lib.hid (fun j x h1 h2 h3 => by
              rw [List.getElem?_set_ne (by omega), List.getElem?_set_ne (by omega)]
              exact HV.out j x (by omega) h2 h3)
            have rm14 := hst.1
            clear hst hx13 hx14 ra13 rm13 hw13 ro13 rr13 hw12 ra12 rm12 ro12 rr12 hX12 HV e1 e2 r0 r1 hlby ho13 hg13
            go_wp2
            go_roundw
            case rel => exact ⟨k + 1, _, _, by omega, by go_num, rfl, hw14, ra14, rm14, ro14, rr14, HV2', hX14⟩
            case measure => simp [intOf]; omega
          · have hmk : m = k := by omega
            subst hmk
            have z9 := cell_of_row v xb who _ _ _ hw.hd
            rw [wk_p _ hw3] at z9
            have hpp : (({ s with p := s.p.put who q9 A9 c9' L9, r := s.r.put who nq An cn L9 } : Wk).p.P who) = q9 := by simp [Tri.put]
            rw [hpp] at z9
            clear b6 heqR
            go_wp2
            go_ret
            exact ⟨rfl, { s with p := s.p.put who q9 A9 c9' L9, r := s.r.put who nq An cn L9 }, hw, hok.put who q9 nq A9 An c9' cn rfl, hX⟩
end Go.Proofs.Ytffapgemacbdjaa
