/- Layer 5, at uint16: the law's play. No condition but the sizes. -/
import Derived.Test.YtffapgemacbdjaaRld
import Derived.Test.YtffapgemacbdjaaRbod
namespace Go.Proofs.Ytffapgemacbdjaa
open Go.RowKit Go.Proofs Go.Shelf
set_option linter.unusedVariables false
attribute [local go_sem] Oper.semAt_some
def iptr (g : Nat → Nat) (a i : Nat) : Value := if i < a then .pointer (some ⟨g i, 0, none⟩) else .pointer none
def initC (p r : Nat → Nat) (a b : Nat) : Array Value := #[iptr p a 0, iptr p a 1, iptr p a 2, iptr r b 0, iptr r b 1, iptr r b 2, .slice none 0 0, .slice none 0 0, .slice none 0 0]
theorem initC_p (p r : Nat → Nat) {a : Nat} (b q : Nat) (ha : a < 3) : (initC p r a b).setIfInBounds a (.pointer (some ⟨q, 0, none⟩)) = initC (fun j => if j = a then q else p j) r (a + 1) b := by
  rcases (by omega : a = 0 ∨ a = 1 ∨ a = 2) with rfl | rfl | rfl <;> simp [initC, iptr]
theorem initC_r (p r : Nat → Nat) (a : Nat) {b : Nat} (q : Nat) (hb : b < 3) : (initC p r a b).setIfInBounds (3 + b) (.pointer (some ⟨q, 0, none⟩)) = initC p (fun j => if j = b then q else r j) a (b + 1) := by
  rcases (by omega : b = 0 ∨ b = 1 ∨ b = 2) with rfl | rfl | rfl <;> simp [initC, iptr]
theorem initC_gp (p r : Nat → Nat) {a i : Nat} (b : Nat) (hi : i < 3) : (initC p r a b)[i]? = some (iptr p a i) := by
  rcases (by omega : i = 0 ∨ i = 1 ∨ i = 2) with rfl | rfl | rfl <;> rfl
theorem initC_gr (p r : Nat → Nat) {b i : Nat} (a : Nat) (hi : i < 3) : (initC p r a b)[3 + i]? = some (iptr r b i) := by
  rcases (by omega : i = 0 ∨ i = 1 ∨ i = 2) with rfl | rfl | rfl <;> rfl
/-- The work while its sets are made. -/
structure Initd (B xb a b : Nat) (p r : Tri) (w : World) : Prop where
  hd : w.heap[xb]? = some (.cells (initC p.P r.P a b) 120 (0, 0))
  ps : ∀ i, i < a → SetAtd B (p.P i) (p.A i) (p.c i) w (p.L i)
  pl : ∀ i, i < a → p.L i = []
  pge : ∀ i, i < a → B ≤ p.P i
  pin : ∀ i j, i < a → j < a → i ≠ j → p.P i ≠ p.P j
  rs : ∀ i, i < b → SetAtr B (r.P i) (r.A i) (r.c i) w (r.L i)
  rl : ∀ i, i < b → r.L i = []
  rge : ∀ i, i < b → B ≤ r.P i
  rin : ∀ i j, i < b → j < b → i ≠ j → r.P i ≠ r.P j
theorem Initd.ext {B xb a b : Nat} {p r : Tri} {w w' : World} (h : Initd B xb a b p r w) (hx : Ext w w') : Initd B xb a b p r w' :=
  ⟨hx.blk h.hd, fun i hi => (h.ps i hi).ext hx, h.pl, h.pge, h.pin, fun i hi => (h.rs i hi).ext hx, h.rl, h.rge, h.rin⟩
theorem Initd.putP {B xb a b q N0 : Nat} {p r : Tri} {w : World} (h : Initd B xb a b p r w) (ha : a < 3) (hn : NewPd B N0 [] (.pointer (some ⟨q, 0, none⟩)) w) (hB : B ≤ N0) (hlt : ∀ i, i < a → p.P i < N0) :
    ∃ A c, Initd B xb (a + 1) b (p.put a q A c []) r (w.setCell ⟨xb, a, none⟩ (.pointer (some ⟨q, 0, none⟩))) := by
  obtain ⟨q', A, c, e, hq, hS, ho⟩ := hn
  have hqq : q = q' := by simpa using e
  subst hqq
  have hx := setCell_excr w xb a (.pointer (some ⟨q, 0, none⟩))
  have hd := heap_setCell_same w xb a _ _ (.pointer (some ⟨q, 0, none⟩)) h.hd
  rw [initC_p _ _ _ _ ha] at hd
  refine ⟨A, c, hd, fun i hi => ?_, fun i hi => ?_, fun i hi => ?_, fun i j hi hj hne => ?_, fun i hi => (h.rs i hi).one hx (blk_ne (h.rs i hi).hd h.hd (by decide)) (own_not (h.rs i hi).row h.hd (by decide)), h.rl, h.rge, h.rin⟩
  · simp only [Tri.put]
    by_cases e : i = a
    · simp only [if_pos e]; exact hS.one hx (blk_ne hS.hd h.hd (by decide)) (own_not hS.row h.hd (by decide))
    · simp only [if_neg e]; have a1 := h.ps i (by omega); exact a1.one hx (blk_ne a1.hd h.hd (by decide)) (own_not a1.row h.hd (by decide))
  · simp only [Tri.put]
    by_cases e : i = a
    · simp only [if_pos e]
    · simp only [if_neg e]; exact h.pl i (by omega)
  · simp only [Tri.put]
    by_cases e : i = a
    · simp only [if_pos e]; omega
    · simp only [if_neg e]; exact h.pge i (by omega)
  · simp only [Tri.put]
    by_cases e1 : i = a <;> by_cases e2 : j = a
    · omega
    · simp only [if_pos e1, if_neg e2]; have := hlt j (by omega); omega
    · simp only [if_neg e1, if_pos e2]; have := hlt i (by omega); omega
    · simp only [if_neg e1, if_neg e2]; exact h.pin i j (by omega) (by omega) hne
theorem Initd.putR {B xb a b q N0 : Nat} {p r : Tri} {w : World} (h : Initd B xb a b p r w) (hb3 : b < 3) (hn : CopyK B N0 [] (.pointer (some ⟨q, 0, none⟩)) w) (hB : B ≤ N0) (hlt : ∀ i, i < b → r.P i < N0) :
    ∃ A c, Initd B xb a (b + 1) p (r.put b q A c []) (w.setCell ⟨xb, 3 + b, none⟩ (.pointer (some ⟨q, 0, none⟩))) := by
  obtain ⟨q', A, c, e, hq, hS, ho⟩ := hn
  have hqq : q = q' := by simpa using e
  subst hqq
  have hx := setCell_excr w xb (3 + b) (.pointer (some ⟨q, 0, none⟩))
  have hd := heap_setCell_same w xb (3 + b) _ _ (.pointer (some ⟨q, 0, none⟩)) h.hd
  rw [initC_r _ _ _ _ hb3] at hd
  refine ⟨A, c, hd, fun i hi => (h.ps i hi).one hx (blk_ne (h.ps i hi).hd h.hd (by decide)) (own_not (h.ps i hi).row h.hd (by decide)), h.pl, h.pge, h.pin, fun i hi => ?_, fun i hi => ?_, fun i hi => ?_, fun i j hi hj hne => ?_⟩
  · simp only [Tri.put]
    by_cases e : i = b
    · simp only [if_pos e]; exact hS.one hx (blk_ne hS.hd h.hd (by decide)) (own_not hS.row h.hd (by decide))
    · simp only [if_neg e]; have a1 := h.rs i (by omega); exact a1.one hx (blk_ne a1.hd h.hd (by decide)) (own_not a1.row h.hd (by decide))
  · simp only [Tri.put]
    by_cases e : i = b
    · simp only [if_pos e]
    · simp only [if_neg e]; exact h.rl i (by omega)
  · simp only [Tri.put]
    by_cases e : i = b
    · simp only [if_pos e]; omega
    · simp only [if_neg e]; exact h.rge i (by omega)
  · simp only [Tri.put]
    by_cases e1 : i = b <;> by_cases e2 : j = b
    · omega
    · simp only [if_pos e1, if_neg e2]; have := hlt j (by omega); omega
    · simp only [if_neg e1, if_pos e2]; have := hlt i (by omega); omega
    · simp only [if_neg e1, if_neg e2]; exact h.rin i j (by omega) (by omega) hne
/-- The work behind its sets' making. -/
theorem Initd.work {B xb : Nat} {p r : Tri} {w : World} (h : Initd B xb 3 3 p r w) (hB : B ≤ xb) : WorkAtd B xb 102 w ⟨p, r, none, 0, [], none, 0, [], none, 0, []⟩ ∧ (⟨p, r, none, 0, [], none, 0, [], none, 0, []⟩ : Wk).Ok :=
  ⟨⟨h.hd, hB, ⟨⟨h.ps, h.pge, h.pin, fun i hi => (by rw [h.pl i hi]; simp)⟩, ⟨h.rs, h.rge, h.rin, fun i hi => (by rw [h.rl i hi]; simp)⟩,
    ⟨World.ownsRow_nil _ _ _ _, fun x hm => (by cases hm), fun x hm => (by cases hm), fun x hm => (by cases hm), by simp⟩,
    ⟨World.ownsRow_nil _ _ _ _, fun x hm => (by cases hm), fun x hm => (by cases hm), fun i j t u hi => (by simp at hi), fun x hm => (by cases hm), by simp⟩,
    ⟨World.ownsRow_nil _ _ _ _, fun x hm => (by cases hm), fun x hm => (by cases hm), by simp⟩,
    fun x hm => (by cases hm), fun x hm => (by cases hm), fun x hm => (by cases hm), fun x hm => (by cases hm)⟩⟩, fun i hi => (by show p.L i = r.L i; rw [h.pl i hi, h.rl i hi]), rfl⟩
def PutAd (B xb j : Nat) (p r : Tri) (W : World) : Prop := ∃ q A c, Initd B xb (j + 1) j (p.put j q A c []) r W
def PutBd (B xb j : Nat) (p r : Tri) (W : World) : Prop := ∃ q A c q' A' c', Initd B xb (j + 1) (j + 1) (p.put j q A c []) (r.put j q' A' c' []) W
theorem PutAd.lasts (B xb j : Nat) (p r : Tri) : Lasts Ext (PutAd B xb j p r) := fun w' w2 ⟨q, A, c, h⟩ he => ⟨q, A, c, h.ext he⟩
theorem PutBd.lasts (B xb j : Nat) (p r : Tri) : Lasts Ext (PutBd B xb j p r) := fun w' w2 ⟨q, A, c, q', A', c', h⟩ he => ⟨q, A, c, q', A', c', h.ext he⟩
/-- A row of calls that has come in. -/
structure OPL (w : World) (A : Option Addr) (c : Nat) (os : List Opn) : Prop where
  rd : 0 < os.length → ∃ b off, A = some ⟨b, off, none⟩ ∧ ∀ i o, os[i]? = some o → ∀ (j : Nat) v, o.cells[j]? = some v → w.cell? ⟨b, off + i * 7 + j, none⟩ = some v
  le : os.length ≤ c
  cap : c ≤ 9223372036854775807
  ok : ∀ o ∈ os, o.In w.heap.size w
set_option maxRecDepth 100000 in
set_option maxHeartbeats 8000000 in
theorem play_anyd {c : Nat} {A : Option Addr} {os : List Opn} {w : World} (hx : OPL w A c os) (hl : os.length ≤ 300) :
    Calls Try.prog 23 #[.slice A os.length c] w fun e w' => e = .returned (.bool true) ∧ Ext w w' := by
  obtain ⟨N, hNl⟩ : ∃ N, os.length = N := ⟨_, rfl⟩
  rw [hNl] at hl ⊢
  have HNL := Lib.hid hNl
  clear hNl
  go_enter Try.func23, Try.ntmps23
  go_wp2
  go_loopw [4] (fun ii wr => ∃ (j : Nat) (p r : Tri), j ≤ 3 ∧ ii = .int .i64 j ∧ Initd w.heap.size w.heap.size j j p r wr ∧ Ext w wr) (fun ii _ => 3 - (intOf ii).toNat)
  case atStart => exact ⟨0, ⟨fun _ => 0, fun _ => none, fun _ => 0, fun _ => []⟩, ⟨fun _ => 0, fun _ => none, fun _ => 0, fun _ => []⟩, by omega, rfl, ⟨heap_alloc_new _ _, fun i h => by omega, fun i h => by omega, fun i h => by omega, fun i j h => by omega, fun i h => by omega, fun i h => by omega, fun i h => by omega, fun i j h => by omega⟩, ext_alloc _ _⟩
  case round =>
    obtain ⟨j, p, r, hj', rfl, hI, hE⟩ := hrel
    have hws := hE.size
    by_cases hlt : j < 3
    · have hji : (j : Int) < 3 := by omega
      have hlp : ∀ i, i < j → p.P i < wr.heap.size := fun i hi => (Array.getElem?_eq_some_iff.1 (hI.ps i hi).hd).1
      have hlr : ∀ i, i < j → r.P i < wr.heap.size := fun i hi => (Array.getElem?_eq_some_iff.1 (hI.rs i hi).hd).1
      have hxl := (Array.getElem?_eq_some_iff.1 hI.hd).1
      go_wp2
      refine wp_region_rg (Exc (DK wr.heap.size w.heap.size none 0 0)) (rel_exc _) (fun V => Initd w.heap.size w.heap.size j j p r V) [0, 1, 2, 3, 4, 5, 6, 7, 8, 9, 11, 12, 10, 13, 14] (fun i => match i with
        | 4 => some fun _ z V => NewPd w.heap.size wr.heap.size [] z V
        | 6 => some fun _ z V => CopyK w.heap.size wr.heap.size [] z V
        | _ => none) (fun i => match i with
        | 10 => some fun V z W => PutAd w.heap.size w.heap.size j p r W
        | 14 => some fun V z W => PutBd w.heap.size w.heap.size j p r W
        | _ => none) (fun _ => false) (by kernel_rfl) (by kernel_rfl) (fun _ _ h he => h.ext he) (hI.ext (Below.refl _ _).drew) (fun W N hW hF0 hN => ?_)
      have hEW : Exc (DK wr.heap.size w.heap.size none 0 0) W W := exc_refl _ _
      have hWs := hW.size
      repeat (first | (apply wpR_one; (case ho => (simp only [List.getElem?_toArray, List.getElem?_cons_succ, List.getElem?_cons_zero]; try exact rfl)); (case hw => rfl); (case hl => rfl); (case hsp => rfl); (case he => rfl); (case hv => (intro w' hw'; (try (have hw2 := Ext.trans hEW hw')); (try (have hw3 := Exc.trans hEW hw')); (try (have hw4 := Exk.trans hEW hw')); (try (have hw5 := Mrk.trans hEW hw')); go_simp; exact rfl)); (case hw0 => (first | exact Below.refl _ _ | exact Exc.of_ext (Below.refl _ _) | exact Exk.of_ext (Below.refl _ _) | exact Mrk.of_ext (Below.refl _ _))); simp only [Act.put, List.setIfInBounds_toArray, List.set_cons_succ, List.set_cons_zero]) | (apply wpR_early; (case ho => (simp only [List.getElem?_toArray, List.getElem?_cons_succ, List.getElem?_cons_zero]; try exact rfl)); (case hw => rfl); (case hl => rfl); (case hsp => rfl); (case he => rfl); (case hv => (intro w' hw'; (try have hw2 := Ext.trans hEW hw'); go_simp; exact rfl)); simp only [Act.put, List.setIfInBounds_toArray, List.set_cons_succ, List.set_cons_zero]) | (apply wpR_pass; (case ho => (simp only [List.getElem?_toArray, List.getElem?_cons_succ, List.getElem?_cons_zero]; try exact rfl)); (case hw => rfl); (case hl => rfl); simp only [Act.put, List.setIfInBounds_toArray, List.set_cons_succ, List.set_cons_zero]))
      refine wpR_new (by ((simp only [List.getElem?_toArray, List.getElem?_cons_succ, List.getElem?_cons_zero]; try exact rfl))) _ rfl rfl rfl (fun V v => NewPd.lasts _ _ _ _ _ _ _ _) (fun V V' h => rfl) (fun w' hw' hK => ?_) (fun z hz => ?_)
      · have hs := hw'.size
        unfold opAt; go_simp; refine upAt_enter ?_
        refine (new_anyd (l := []) ⟨fun h => absurd h (by simp), Nat.le_refl _, fun z h => (by cases h)⟩ (by simp)).mono ?_
        rintro e w8 ⟨q, A8, c8, rfl, hq8, h8, hE8⟩
        exact ⟨_, rfl, hE8, q, A8, c8, rfl, by omega, ⟨h8.hd, own_mono h8.row (by omega), h8.wf, h8.bd⟩, fun b hb => by have := (World.ownsRow.lt h8.row b hb).1; omega⟩
      obtain ⟨_, _, _, qp, _, _, rfl, _⟩ := hz
      simp only [Act.put, List.setIfInBounds_toArray, List.set_cons_succ, List.set_cons_zero]
      repeat (first | (apply wpR_one; (case ho => (simp only [List.getElem?_toArray, List.getElem?_cons_succ, List.getElem?_cons_zero]; try exact rfl)); (case hw => rfl); (case hl => rfl); (case hsp => rfl); (case he => rfl); (case hv => (intro w' hw'; (try (have hw2 := Ext.trans hEW hw')); (try (have hw3 := Exc.trans hEW hw')); (try (have hw4 := Exk.trans hEW hw')); (try (have hw5 := Mrk.trans hEW hw')); go_simp; exact rfl)); (case hw0 => (first | exact Below.refl _ _ | exact Exc.of_ext (Below.refl _ _) | exact Exk.of_ext (Below.refl _ _) | exact Mrk.of_ext (Below.refl _ _))); simp only [Act.put, List.setIfInBounds_toArray, List.set_cons_succ, List.set_cons_zero]) | (apply wpR_early; (case ho => (simp only [List.getElem?_toArray, List.getElem?_cons_succ, List.getElem?_cons_zero]; try exact rfl)); (case hw => rfl); (case hl => rfl); (case hsp => rfl); (case he => rfl); (case hv => (intro w' hw'; (try have hw2 := Ext.trans hEW hw'); go_simp; exact rfl)); simp only [Act.put, List.setIfInBounds_toArray, List.set_cons_succ, List.set_cons_zero]) | (apply wpR_pass; (case ho => (simp only [List.getElem?_toArray, List.getElem?_cons_succ, List.getElem?_cons_zero]; try exact rfl)); (case hw => rfl); (case hl => rfl); simp only [Act.put, List.setIfInBounds_toArray, List.set_cons_succ, List.set_cons_zero]))
      refine wpR_new (by ((simp only [List.getElem?_toArray, List.getElem?_cons_succ, List.getElem?_cons_zero]; try exact rfl))) _ rfl rfl rfl (fun V v => CopyK.lasts _ _ _ _ _ _ _ _) (fun V V' h => rfl) (fun w' hw' hK => ?_) (fun z hz => ?_)
      · have hs := hw'.size
        unfold opAt
        go_simp
        exact upAt_value ⟨ext_alloc _ _, w'.heap.size, none, 0, rfl, by omega, ⟨heap_alloc_new _ _, World.ownsRow_nil _ _ _ _, trivial, fun r h => (by cases h)⟩, fun b hb => (by cases hb)⟩
      obtain ⟨_, _, _, qn, _, _, rfl, _⟩ := hz
      simp only [Act.put, List.setIfInBounds_toArray, List.set_cons_succ, List.set_cons_zero]
      repeat (first | (apply wpR_one; (case ho => (simp only [List.getElem?_toArray, List.getElem?_cons_succ, List.getElem?_cons_zero]; try exact rfl)); (case hw => rfl); (case hl => rfl); (case hsp => rfl); (case he => rfl); (case hv => (intro w' hw'; (try (have hw2 := Ext.trans hEW hw')); (try (have hw3 := Exc.trans hEW hw')); (try (have hw4 := Exk.trans hEW hw')); (try (have hw5 := Mrk.trans hEW hw')); go_simp; exact rfl)); (case hw0 => (first | exact Below.refl _ _ | exact Exc.of_ext (Below.refl _ _) | exact Exk.of_ext (Below.refl _ _) | exact Mrk.of_ext (Below.refl _ _))); simp only [Act.put, List.setIfInBounds_toArray, List.set_cons_succ, List.set_cons_zero]) | (apply wpR_early; (case ho => (simp only [List.getElem?_toArray, List.getElem?_cons_succ, List.getElem?_cons_zero]; try exact rfl)); (case hw => rfl); (case hl => rfl); (case hsp => rfl); (case he => rfl); (case hv => (intro w' hw'; (try have hw2 := Ext.trans hEW hw'); go_simp; exact rfl)); simp only [Act.put, List.setIfInBounds_toArray, List.set_cons_succ, List.set_cons_zero]) | (apply wpR_pass; (case ho => (simp only [List.getElem?_toArray, List.getElem?_cons_succ, List.getElem?_cons_zero]; try exact rfl)); (case hw => rfl); (case hl => rfl); simp only [Act.put, List.setIfInBounds_toArray, List.set_cons_succ, List.set_cons_zero]))
      refine wpR_late (by ((simp only [List.getElem?_toArray, List.getElem?_cons_succ, List.getElem?_cons_zero]; try exact rfl))) _ rfl rfl (fun V v => PutAd.lasts _ _ _ _ _) (fun V V' h => rfl) (fun w' hw' hK hF => ?_) (fun v hv => ?_)
      · have hF2 : Initd w.heap.size w.heap.size j j p r w' := hF
        obtain ⟨A9, c9, h9⟩ := hF2.putP hlt (hK 4 (by kernel_rfl)).2 (by omega) hlp
        have hfin : PutAd w.heap.size w.heap.size j p r (w'.setCell ⟨w.heap.size, j, none⟩ (.pointer (some ⟨qp, 0, none⟩))) := ⟨qp, A9, c9, h9⟩
        have c4 := cell_of_row w' w.heap.size j _ _ _ hF2.hd
        rw [initC_gp _ _ _ hlt] at c4
        simp only [iptr, Nat.lt_irrefl, if_false] at c4
        have f4 := frozen_of_row w' w.heap.size j _ _ hF2.hd
        have hxc : Exc (DK wr.heap.size w.heap.size none 0 0) w' (w'.setCell ⟨w.heap.size, j, none⟩ (.pointer (some ⟨qp, 0, none⟩))) := by
          have hx := setCell_excr w' w.heap.size j (.pointer (some ⟨qp, 0, none⟩))
          exact ⟨hx.os, hx.tape, hx.output, hx.size, fun k o hk hn => hx.block k o hk (fun e => hn ⟨by omega, .inl e⟩)⟩
        clear hF2 hK h9
        unfold opAt
        go_simp
        exact ⟨undef, rfl, hxc, hfin⟩
      clear hv
      simp only [Act.put, List.setIfInBounds_toArray, List.set_cons_succ, List.set_cons_zero]
      repeat (first | (apply wpR_one; (case ho => (simp only [List.getElem?_toArray, List.getElem?_cons_succ, List.getElem?_cons_zero]; try exact rfl)); (case hw => rfl); (case hl => rfl); (case hsp => rfl); (case he => rfl); (case hv => (intro w' hw'; (try (have hw2 := Ext.trans hEW hw')); (try (have hw3 := Exc.trans hEW hw')); (try (have hw4 := Exk.trans hEW hw')); (try (have hw5 := Mrk.trans hEW hw')); go_simp; exact rfl)); (case hw0 => (first | exact Below.refl _ _ | exact Exc.of_ext (Below.refl _ _) | exact Exk.of_ext (Below.refl _ _) | exact Mrk.of_ext (Below.refl _ _))); simp only [Act.put, List.setIfInBounds_toArray, List.set_cons_succ, List.set_cons_zero]) | (apply wpR_early; (case ho => (simp only [List.getElem?_toArray, List.getElem?_cons_succ, List.getElem?_cons_zero]; try exact rfl)); (case hw => rfl); (case hl => rfl); (case hsp => rfl); (case he => rfl); (case hv => (intro w' hw'; (try have hw2 := Ext.trans hEW hw'); go_simp; exact rfl)); simp only [Act.put, List.setIfInBounds_toArray, List.set_cons_succ, List.set_cons_zero]) | (apply wpR_pass; (case ho => (simp only [List.getElem?_toArray, List.getElem?_cons_succ, List.getElem?_cons_zero]; try exact rfl)); (case hw => rfl); (case hl => rfl); simp only [Act.put, List.setIfInBounds_toArray, List.set_cons_succ, List.set_cons_zero]))
      refine wpR_late (by ((simp only [List.getElem?_toArray, List.getElem?_cons_succ, List.getElem?_cons_zero]; try exact rfl))) _ rfl rfl (fun V v => PutBd.lasts _ _ _ _ _) (fun V V' h => rfl) (fun w' hw' hK hF => ?_) (fun v hv => ?_)
      · obtain ⟨q9, A9, c9, h9⟩ : PutAd w.heap.size w.heap.size j p r w' := hF
        obtain ⟨A8, c8, h8⟩ := h9.putR hlt (hK 6 (by kernel_rfl)).2 (by omega) hlr
        have hfin : PutBd w.heap.size w.heap.size j p r (w'.setCell ⟨w.heap.size, 3 + j, none⟩ (.pointer (some ⟨qn, 0, none⟩))) := ⟨q9, A9, c9, qn, A8, c8, h8⟩
        have c4 := cell_of_row w' w.heap.size (3 + j) _ _ _ h9.hd
        rw [initC_gr _ _ _ hlt] at c4
        simp only [iptr, Nat.lt_irrefl, if_false] at c4
        have f4 := frozen_of_row w' w.heap.size (3 + j) _ _ h9.hd
        have hxc : Exc (DK wr.heap.size w.heap.size none 0 0) w' (w'.setCell ⟨w.heap.size, 3 + j, none⟩ (.pointer (some ⟨qn, 0, none⟩))) := by
          have hx := setCell_excr w' w.heap.size (3 + j) (.pointer (some ⟨qn, 0, none⟩))
          exact ⟨hx.os, hx.tape, hx.output, hx.size, fun k o hk hn => hx.block k o hk (fun e => hn ⟨by omega, .inl e⟩)⟩
        clear hK h9 h8
        unfold opAt
        go_simp
        exact ⟨undef, rfl, hxc, hfin⟩
      clear hv
      simp only [Act.put, List.setIfInBounds_toArray, List.set_cons_succ, List.set_cons_zero]
      apply wpR_nil
      apply hN
      intro v9 hE9 hK hF
      obtain ⟨q1, A1, c1, q2, A2, c2, hI9⟩ : PutBd w.heap.size w.heap.size j p r v9 := hF
      have hX9 : Exc (fun q _ => w.heap.size ≤ q) w v9 := (Exc.of_ext (hE.trans hW)).trans ⟨hE9.os, hE9.tape, hE9.output, hE9.size, fun k o hk hn => hE9.block k o hk (fun e => hn (e.2.elim (fun e => by omega) (fun e => by cases e)))⟩
      have hE10 := below_exc hX9 (Nat.le_refl _)
      have x0 : v9.cell? ⟨w.heap.size, j, none⟩ = some (.pointer (some ⟨q1, 0, none⟩)) := by
        rw [cell_of_row _ _ _ _ _ _ hI9.hd, initC_gp _ _ _ hlt]
        simp [iptr, Tri.put]
      clear hK hN hW hE9 hX9 hEW hF0
      go_wp2
      go_roundw
      case rel => exact ⟨j + 1, _, _, by omega, by go_num, hI9, hE10⟩
      case measure => simp [intOf]; omega
    · have hj3 : j = 3 := by omega
      subst hj3
      obtain ⟨hW0, hok0⟩ := hI.work (Nat.le_refl _)
      obtain ⟨v1, hv1⟩ : ∃ V, V = wr := ⟨_, rfl⟩
      subst hv1
      go_wp2
      go_loopw [6] (fun iv W => ∃ (k : Nat) (s : Wk), k ≤ N + 1 ∧ ((k = 0 ∧ iv = .int .i64 (-1)) ∨ (∃ k' : Nat, k = k' + 1 ∧ iv = .int .i64 k')) ∧ WorkAtd w.heap.size w.heap.size (102 + k) W s ∧ s.Ok ∧ W.heap[v1.heap.size]? = some (.cells #[.int .i64 0, .int .i64 0, .int .i64 0, .int .i64 3, .int .i64 5, .int .i64 0, .slice none 0 0] 89 (0, 0)) ∧ Exc (fun q _ => w.heap.size ≤ q) w W) (fun iv _ => N + 1 - ((intOf iv) + 1).toNat)
      case atStart => exact ⟨0, _, by omega, .inl ⟨rfl, rfl⟩, hW0.ext (ext_alloc _ _), hok0, heap_alloc_new _ _, Exc.of_ext (hE.trans (ext_alloc _ _))⟩
      case round =>
        clear hW0 hok0 hI
        obtain ⟨k, s, hk, hkk, hWk, hok, hfst, hX⟩ := hrel
        have hBel := below_exc hX (Nat.le_refl _)
        rcases hkk with ⟨rfl, rfl⟩ | ⟨k', rfl, rfl⟩
        · have hm1 : (-1 : Int) < (N : Int) := by omega
          go_wp2_with (refine wpList_load_row rfl _ _ rfl v1.heap.size rfl _ _ _ _ hfst Try.underlying89 rfl (by kernel_rfl) ?_)
          refine (do_anyd (o := ⟨0, 0, 0, 3, 5, 0, none, 0, []⟩) (hWk.ext (ext_alloc _ _)) hok (by omega) (by omega) ⟨fun h => absurd h (by simp), Nat.le_refl _, by decide⟩).mono ?_
          rintro e w5 ⟨s5, rfl, h5, hok5, hX5⟩
          have hf5 := hX5.blk ((ext_alloc _ _).blk hfst) (fun e => e.2 _ _ rfl)
          have hXX := (hX.trans (Exc.of_ext (ext_alloc _ _))).trans (exc_db hX5)
          clear hX hX5 hWk hok hfst hBel
          go_wp2
          go_roundw
          case rel => exact ⟨_, _, _, _, _, _, _, _, _, _, _, _, _, _, _, _, _, _, _, _, _, _, ⟨1, s5, by omega, .inr ⟨0, rfl, by first | rfl | go_num⟩, h5, hok5, hf5, hXX⟩, rfl⟩
          case measure => simp [intOf]; try omega
        · by_cases hltk : k' < N
          · obtain ⟨o, ho⟩ : ∃ o, os[k']? = some o := ⟨_, List.getElem?_eq_getElem (by rw [HNL.out]; exact hltk)⟩
            obtain ⟨b, off, hA, hcl⟩ := hx.rd (by rw [HNL.out]; omega)
            have hcc := hcl k' o ho
            have hoi := (hx.ok o (List.mem_of_getElem? ho)).below hBel
            have hkc : k' < c := by have := hx.le; rw [HNL.out] at this; omega
            subst hA
            have hz : ∀ (j : Nat) v, o.cells[j]? = some v → ∀ ob, (wr.alloc ob).cell? ⟨b, off + k' * 7 + j, none⟩ = some v := fun j v hv ob => (ext_alloc wr ob).cell (Ext.cell hBel (hcc j v hv))
            have z0 : ∀ ob, (wr.alloc ob).cell? ⟨b, off + k' * 7, none⟩ = some (.int .i64 o.kind) := hz 0 _ rfl
            have z1 : ∀ ob, (wr.alloc ob).cell? ⟨b, off + k' * 7 + 1, none⟩ = some (.int .i64 o.who) := hz 1 _ rfl
            have z2 : ∀ ob, (wr.alloc ob).cell? ⟨b, off + k' * 7 + 2, none⟩ = some (.int .i64 o.to) := hz 2 _ rfl
            have z3 : ∀ ob, (wr.alloc ob).cell? ⟨b, off + k' * 7 + 3, none⟩ = some (.int .i64 o.lo) := hz 3 _ rfl
            have z4 : ∀ ob, (wr.alloc ob).cell? ⟨b, off + k' * 7 + 4, none⟩ = some (.int .i64 o.hi) := hz 4 _ rfl
            have z5 : ∀ ob, (wr.alloc ob).cell? ⟨b, off + k' * 7 + 5, none⟩ = some (.int .i64 o.k) := hz 5 _ rfl
            have z6 : ∀ ob, (wr.alloc ob).cell? ⟨b, off + k' * 7 + 6, none⟩ = some (.slice o.A o.L.length o.c) := hz 6 _ rfl
            clear hz hcc hcl
            go_wp2_with (refine wpList_load_row rfl _ _ rfl v1.heap.size rfl _ _ _ _ hfst Try.underlying89 rfl (by kernel_rfl) ?_)
            refine (do_anyd (o := o) (hWk.ext (ext_alloc _ _)) hok (by omega) (by omega) (hoi.below ((ext_alloc _ _).mono (by have := hX.size; omega)))).mono ?_
            rintro e w5 ⟨s5, rfl, h5, hok5, hX5⟩
            have hf5 := hX5.blk ((ext_alloc _ _).blk hfst) (fun e => e.2 _ _ rfl)
            have hXX := (hX.trans (Exc.of_ext (ext_alloc _ _))).trans (exc_db hX5)
            clear hX hX5 hWk hok hfst hBel z0 z1 z2 z3 z4 z5 z6 hoi
            go_wp2
            go_roundw
            case rel => exact ⟨_, _, _, _, _, _, _, _, _, _, _, _, _, _, _, _, _, _, _, _, _, _, ⟨k' + 2, s5, by omega, .inr ⟨k' + 1, rfl, by go_num⟩, h5, hok5, hf5, hXX⟩, rfl⟩
            case measure => simp [intOf]; try omega
          · go_wp2_with fail
            refine (book_anyd hWk hok (by omega)).mono ?_
            rintro e w5 ⟨rfl, hX5⟩
            go_wp2
            go_ret
            exact ⟨rfl, below_exc (hX.trans hX5) (Nat.le_refl _)⟩
end Go.Proofs.Ytffapgemacbdjaa
