/- Layer 10: turn: a page's count more, its state's tally, the free pages. No condition but the sizes. -/
import Derived.Test.YtaalhicdeibodaaPa
namespace Go.Proofs.Ytaalhicdeibodaa
open Go.RowKit Go.Proofs Go.Shelf
set_option linter.unusedVariables false
attribute [local go_sem] Oper.semAt_some
section
variable {B : Nat} {w : World} {m : Pm} {refs : Int} {cnt : List Int} {last : List Bool} {L : List Rn} {ta : List Int} {az : List (Int × Int)} {fl : Int}
/-- The pool's own block turned. -/
theorem PoolM.turnP {w' : World} {refs' fl' : Int} {ta' : List Int} (h : PoolM B w m refs cnt last L ta az fl) (hx : Exc (fun q _ => q = m.p) w w')
    (hd : w'.heap[m.p]? = some (.cells (poolC m refs' cnt.length last.length ta' az.length fl') 74 (0, 0))) (tl : ta'.length = 5) : PoolM B w' m refs' cnt last L ta' az fl' := by
  refine ⟨hd, own_out h.cn hx ?_, own_out h.la hx ?_, ⟨hx.blk h.fr.hd (blk_ne h.fr.hd h.hd (by decide)), own_out h.fr.row hx ?_, h.fr.wf, h.fr.bd⟩, own_out h.ac hx ?_, fun i a b ha hb => ?_, h.sep, h.geP, h.geF, h.geB, tl⟩
  · rintro b o hb rfl
    exact own_not h.cn h.hd (by decide) hb
  · rintro b o hb rfl
    exact own_not h.la h.hd (by decide) hb
  · rintro b o hb rfl
    exact own_not h.fr.row h.hd (by decide) hb
  · rintro b o hb rfl
    exact own_not h.ac h.hd (by decide) hb
  · have k := h.cl i a b ha hb
    exact ⟨hx.blk k.c1 (blk_ne k.c1 h.hd (by decide)), hx.blk k.c2 (blk_ne k.c2 h.hd (by decide)), hx.blk k.c3 (blk_ne k.c3 h.hd (by decide))⟩
/-- The counts turned. -/
theorem PoolM.turnC {w' : World} {cnt' : List Int} (h : PoolM B w m refs cnt last L ta az fl) (hx : Exc (fun q _ => blkOf m.cA = some q) w w')
    (hc : RowI B w' m.cA m.cc cnt') (hl : cnt'.length = cnt.length) : PoolM B w' m refs cnt' last L ta az fl := by
  have hob : ∀ q, blkOf m.cA = some q → (Value.slice m.cA cnt.length m.cc).ownBlock = some q := fun q hq => by rw [ownBlock_eq]; exact hq
  refine ⟨hx.blk (by rw [hl]; exact h.hd) (fun e => own_not h.cn h.hd (by decide) (hob _ e)), hc, own_out h.la hx ?_, ⟨hx.blk h.fr.hd (fun e => own_not h.cn h.fr.hd (by decide) (hob _ e)), own_out h.fr.row hx ?_, h.fr.wf, h.fr.bd⟩, own_out h.ac hx ?_, fun i a b ha hb => ?_, h.sep, h.geP, h.geF, h.geB, h.tl⟩
  · rintro b o hb e
    obtain ⟨_, cs, hg⟩ := own_blk h.la hb
    exact own_not h.cn hg (by decide) (hob _ e)
  · rintro b o hb e
    obtain ⟨_, cs, hg⟩ := own_blk h.fr.row hb
    exact own_not h.cn hg (by decide) (hob _ e)
  · rintro b o hb e
    obtain ⟨_, cs, hg⟩ := own_blk h.ac hb
    exact own_not h.cn hg (by decide) (hob _ e)
  · have k := h.cl i a b ha hb
    have hs := h.sep b (List.mem_of_getElem? hb)
    exact ⟨hx.blk k.c1 (fun e => own_not h.cn k.c1 (by decide) (hob _ e)), hx.blk k.c2 hs.1, hx.blk k.c3 hs.2⟩
/-- What lasts turned. -/
theorem PoolM.turnL {w' : World} {last' : List Bool} (h : PoolM B w m refs cnt last L ta az fl) (hx : Exc (fun q _ => blkOf m.lA = some q) w w')
    (hc : RowT B w' m.lA m.lc last') (hl : last'.length = last.length) : PoolM B w' m refs cnt last' L ta az fl := by
  have hob : ∀ q, blkOf m.lA = some q → (Value.slice m.lA last.length m.lc).ownBlock = some q := fun q hq => by rw [ownBlock_eq]; exact hq
  refine ⟨hx.blk (by rw [hl]; exact h.hd) (fun e => own_not h.la h.hd (by decide) (hob _ e)), own_out h.cn hx ?_, hc, ⟨hx.blk h.fr.hd (fun e => own_not h.la h.fr.hd (by decide) (hob _ e)), own_out h.fr.row hx ?_, h.fr.wf, h.fr.bd⟩, own_out h.ac hx ?_, fun i a b ha hb => ?_, h.sep, h.geP, h.geF, h.geB, h.tl⟩
  · rintro b o hb e
    obtain ⟨_, cs, hg⟩ := own_blk h.cn hb
    exact own_not h.la hg (by decide) (hob _ e)
  · rintro b o hb e
    obtain ⟨_, cs, hg⟩ := own_blk h.fr.row hb
    exact own_not h.la hg (by decide) (hob _ e)
  · rintro b o hb e
    obtain ⟨_, cs, hg⟩ := own_blk h.ac hb
    exact own_not h.la hg (by decide) (hob _ e)
  · have k := h.cl i a b ha hb
    exact ⟨hx.blk k.c1 (fun e => own_not h.la k.c1 (by decide) (hob _ e)), hx.blk k.c2 (fun e => own_not h.la k.c2 (by decide) (hob _ e)), hx.blk k.c3 (fun e => own_not h.la k.c3 (by decide) (hob _ e))⟩
/-- The free pages turned. -/
theorem PoolM.turnF {w' : World} {A' : Option Addr} {c' : Nat} {L' : List Rn} (h : PoolM B w m refs cnt last L ta az fl) (hx : Exc (fun q _ => q = m.fp) w w')
    (hf : SetAti B m.fp A' c' w' L') : PoolM B w' { m with fA := A', fc := c' } refs cnt last L' ta az fl := by
  refine ⟨hx.blk h.hd (blk_ne h.hd h.fr.hd (by decide)), own_out h.cn hx ?_, own_out h.la hx ?_, hf, own_out h.ac hx ?_, fun i a b ha hb => ?_, h.sep, h.geP, h.geF, h.geB, h.tl⟩
  · rintro b o hb rfl
    exact own_not h.cn h.fr.hd (by decide) hb
  · rintro b o hb rfl
    exact own_not h.la h.fr.hd (by decide) hb
  · rintro b o hb rfl
    exact own_not h.ac h.fr.hd (by decide) hb
  · have k := h.cl i a b ha hb
    exact ⟨hx.blk k.c1 (blk_ne k.c1 h.fr.hd (by decide)), hx.blk k.c2 (blk_ne k.c2 h.fr.hd (by decide)), hx.blk k.c3 (blk_ne k.c3 h.fr.hd (by decide))⟩
theorem ic_set (l : List Int) (k : Nat) (z : Int) : ic (l.set k z) = (ic l).set k (.int .i64 z) := by simp [ic, List.map_set]
theorem bc_set (l : List Bool) (k : Nat) (z : Bool) : bc (l.set k z) = (bc l).set k (.bool z) := by simp [bc, List.map_set]
theorem setCell_excp (w : World) (g i : Nat) (v : Value) : Exc (fun q _ => q = g) w (w.setCell ⟨g, i, none⟩ v) :=
  ⟨rfl, rfl, rfl, by simp [World.setCell], fun k o hk hn => (Below.heap_setCell w _ v k (fun e => hn e)).trans hk⟩
theorem RowI.store {w : World} {B g c : Nat} {l : List Int} (h : RowI B w (some ⟨g, 0, none⟩) c l) {k : Nat} (hk : k < l.length) (z : Int) : RowI B (w.setCell ⟨g, k, none⟩ (.int .i64 z)) (some ⟨g, 0, none⟩) c (l.set k z) := by
  unfold RowI
  rw [List.length_set, ic_set]
  exact (World.ownsRow.stored h k _).1
theorem RowT.store {w : World} {B g c : Nat} {l : List Bool} (h : RowT B w (some ⟨g, 0, none⟩) c l) {k : Nat} (hk : k < l.length) (z : Bool) : RowT B (w.setCell ⟨g, k, none⟩ (.bool z)) (some ⟨g, 0, none⟩) c (l.set k z) := by
  unfold RowT
  rw [List.length_set, bc_set]
  exact (World.ownsRow.stored h k _).1
theorem poolC_tal (m : Pm) (refs : Int) (n1 n2 : Nat) (ta : List Int) (na : Nat) (fl : Int) (ht : ta.length = 5) {k : Nat} (hk : k < 5) (v : Int) :
    (poolC m refs n1 n2 ta na fl).setIfInBounds (4 + k) (.int .i64 v) = poolC m refs n1 n2 (ta.set k v) na fl := by
  obtain ⟨a, b, c, d, e, rfl⟩ : ∃ a b c d e, ta = [a, b, c, d, e] := by
    match ta, ht with
    | [a, b, c, d, e], _ => exact ⟨a, b, c, d, e, rfl⟩
  match k, hk with
  | 0, _ => rfl
  | 1, _ => rfl
  | 2, _ => rfl
  | 3, _ => rfl
  | 4, _ => rfl
theorem PoolM.setTal (h : PoolM B w m refs cnt last L ta az fl) {k : Nat} (hk : k < 5) (v : Int) : PoolM B (w.setCell ⟨m.p, 4 + k, none⟩ (.int .i64 v)) m refs cnt last L (ta.set k v) az fl := by
  refine h.turnP (setCell_excp _ _ _ _) ?_ (by rw [List.length_set]; exact h.tl)
  rw [heap_setCell_same w m.p (4 + k) _ _ _ h.hd, poolC_tal _ _ _ _ _ _ _ h.tl hk]
def turnL (sb sn : Int) (L : List Rn) (n : Int) : List Rn := if sb = sn then L else if sb = 1 then remL L n n else if sn = 1 then addL L ⟨n, n⟩ else L
def turnT (sb sn : Nat) (ta : List Int) : List Int := (ta.set sb (ta.getD sb 0 - 1)).set sn ((ta.set sb (ta.getD sb 0 - 1)).getD sn 0 + 1)
set_option maxRecDepth 100000 in
set_option maxHeartbeats 2000000 in
theorem turn_any (h : PoolM B w m refs cnt last L ta az fl) (hl : last.length = cnt.length) (h6 : cnt.length ≤ 65536) (hL : L.length ≤ 65536) {k : Nat} (hk : k < cnt.length) {b : Int} (hb : -1 ≤ b ∧ b ≤ 1)
    (hc : -1 ≤ cnt.getD k 0 ∧ cnt.getD k 0 ≤ 65536) (ht : ∀ j, j < 5 → -1 ≤ ta.getD j 0 ∧ ta.getD j 0 ≤ 65537) (hBw : B ≤ w.heap.size) :
    Calls Try.prog 64 #[.pointer (some ⟨m.p, 0, none⟩), .int .i64 ((k : Int) + 1), .int .i64 b] w fun e w' => ∃ A' c', e = .returned (.tuple #[]) ∧
      PoolM B w' { m with fA := A', fc := c' } refs (bump cnt ((k : Int) + 1) b) last (turnL (stOf (cnt.getD k 0) (last.getD k false)) (stOf (cnt.getD k 0 + b) (last.getD k false)) L ((k : Int) + 1))
        (turnT (stOf (cnt.getD k 0) (last.getD k false)).toNat (stOf (cnt.getD k 0 + b) (last.getD k false)).toNat ta) az fl ∧
      Exc (fun q _ => m.foot q) w w' ∧ (∀ q, blkOf A' = some q → blkOf m.fA = some q ∨ w.heap.size ≤ q) := by
  have hst0 := state_any h hl h6 ((k : Int) + 1)
  have e0 : stAt cnt last ((k : Int) + 1) = stOf (cnt.getD k 0) (last.getD k false) := by
    unfold stAt
    rw [if_pos ⟨by omega, by omega⟩, show ((k : Int) + 1 - 1).toNat = k by omega]
  rw [e0] at hst0
  have eb : bump cnt ((k : Int) + 1) b = cnt.set k (cnt.getD k 0 + b) := by
    unfold bump
    rw [show ((k : Int) + 1 - 1).toNat = k by omega]
  rw [eb]
  obtain ⟨cn', hcn'⟩ : ∃ l, cnt.set k (cnt.getD k 0 + b) = l := ⟨_, rfl⟩
  rw [hcn']
  have hl' : cn'.length = cnt.length := by rw [← hcn', List.length_set]
  have hck : cn'.getD k 0 = cnt.getD k 0 + b := by
    rw [← hcn', List.getD_eq_getElem?_getD, List.getElem?_set, if_pos rfl, if_pos hk]
    rfl
  obtain ⟨g, hg, hcc, hBg, d1, f1⟩ := h.cn.at hk
  have hC : ∀ z, z = cnt.getD k 0 + b → PoolM B (w.setCell ⟨g, k, none⟩ (.int .i64 z)) m refs cn' last L ta az fl ∧ Exc (fun q _ => m.foot q) w (w.setCell ⟨g, k, none⟩ (.int .i64 z)) := fun z hz => by
    have hx := setCell_excp w g k (.int .i64 z)
    have hgb : ∀ q, blkOf m.cA = some q ↔ q = g := fun q => by rw [hg]; exact ⟨fun e => by injection e with e; exact e.symm, fun e => by rw [e]; rfl⟩
    refine ⟨h.turnC ⟨hx.os, hx.tape, hx.output, hx.size, fun q o ho hn => hx.block q o ho (fun e => hn ((hgb q).2 e))⟩ ?_ hl', ⟨hx.os, hx.tape, hx.output, hx.size, fun q o ho hn => hx.block q o ho (fun e => hn (.inr (.inl ((hgb q).2 e))))⟩⟩
    have hh := h.cn
    rw [hg] at hh ⊢
    rw [← hcn', hz]
    exact hh.store hk _
  obtain ⟨c, hcv⟩ : ∃ c, cnt.getD k 0 = c := ⟨_, rfl⟩
  rw [hcv] at hst0 hck hC hc d1 ⊢
  have c1 : w.cell? ⟨m.p, 1, none⟩ = some (.slice (some ⟨g, 0, none⟩) cnt.length m.cc) := by rw [← hg]; exact h.c 1
  obtain ⟨l, hlv⟩ : ∃ l, last.getD k false = l := ⟨_, rfl⟩
  rw [hlv] at hst0 ⊢
  obtain ⟨sb, hsb⟩ : ∃ s : Nat, stOf c l = (s : Int) := ⟨(stOf c l).toNat, by have := stOf_bd c l; omega⟩
  obtain ⟨sn, hsn⟩ : ∃ s : Nat, stOf (c + b) l = (s : Int) := ⟨(stOf (c + b) l).toNat, by have := stOf_bd (c + b) l; omega⟩
  have hb1 := stOf_bd c l
  have hb2 := stOf_bd (c + b) l
  rw [hsb] at hst0 hb1 ⊢
  rw [hsn] at hb2 ⊢
  rw [Int.toNat_natCast, Int.toNat_natCast]
  have hsb5 : sb < 5 := by omega
  have hsn5 : sn < 5 := by omega
  obtain ⟨TL, hTL⟩ : ∃ l, turnL (sb : Int) (sn : Int) L ((k : Int) + 1) = l := ⟨_, rfl⟩
  rw [hTL]
  have HTL := Lib.hid hTL
  clear hTL
  have h1' := hC (c + b) rfl
  obtain ⟨h1, hx1⟩ := h1'
  have hst1 := state_any h1 (hl.trans hl'.symm) (by omega) ((k : Int) + 1)
  have e1 : stAt cn' last ((k : Int) + 1) = sn := by
    unfold stAt
    rw [if_pos ⟨by omega, by omega⟩, show ((k : Int) + 1 - 1).toNat = k by omega, hck, hlv, hsn]
  rw [e1] at hst1
  have iw : IntKind.i64.wrap (c + b) = c + b := IntWalk.i64_in _ (by omega)
  clear hcn' eb hck hlv hsb hsn hcv e0 e1 hC hg
  go_enter Try.func64, Try.ntmps64
  go_wp2_with fail
  refine hst0.mono ?_
  rintro e w2 ⟨rfl, rfl⟩
  go_wp2_with fail
  refine hst1.mono ?_
  rintro e w2 ⟨rfl, rfl⟩
  clear hst0 hst1 c1 d1 f1 iw
  go_wp2
  refine wp_cut (fun W => PoolM B W m refs cn' last L ta az fl ∧ Exc (fun q _ => m.foot q) w W) ⟨h1, hx1⟩ ?_
  rintro w1 ⟨h2, hx2⟩
  clear h1 hx1
  have hfm : ∀ {u u' : World}, Exc (fun q _ => q = m.p) u u' → Exc (fun q _ => m.foot q) u u' := fun hx => ⟨hx.os, hx.tape, hx.output, hx.size, fun q o ho hn => hx.block q o ho (fun e => hn (.inl e))⟩
  obtain ⟨ta1, hta1⟩ : ∃ l, ta.set sb (ta.getD sb 0 - 1) = l := ⟨_, rfl⟩
  have htb := ht sb hsb5
  have htn : -3 ≤ ta1.getD sn 0 ∧ ta1.getD sn 0 ≤ 65538 := by
    have := ht sn hsn5
    rw [← hta1, List.getD_eq_getElem?_getD, List.getElem?_set]
    rw [List.getD_eq_getElem?_getD] at this htb
    split
    · split <;> simp <;> omega
    · omega
  refine wp_region_rg (Exc fun q _ => q = m.p) (rel_exc _) (fun V => PoolM B V m refs cn' last L ta az fl) [0, 1, 2, 3, 4, 5, 6, 7, 8, 9, 10] (fun _ => none) (fun i => match i with
    | 10 => some fun _ _ V => PoolM B V m refs cn' last L ta1 az fl
    | _ => none) (fun i => match i with | 5 => true | _ => false) (by kernel_rfl) (by kernel_rfl) (fun _ _ h he => h.ext he) (h2.ext (Below.refl _ _).drew) (fun W N hW hF0 hN => ?_)
  have hEW : Exc (fun q _ => q = m.p) W W := exc_refl _ _
  obtain ⟨tb, htbv⟩ : ∃ z, ta.getD sb 0 = z := ⟨_, rfl⟩
  have e5 : ∀ w', Ext W w' → w'.cell? ⟨m.p, 4 + sb, none⟩ = some (.int .i64 tb) := fun w' hh => by rw [← htbv]; exact (hF0.ext hh).c4 hsb5
  have htb' : -1 ≤ tb ∧ tb ≤ 65537 := by rw [← htbv]; exact htb
  have hX3 : ∀ V, PoolM B V m refs cn' last L ta az fl → PoolM B (V.setCell ⟨m.p, 4 + sb, none⟩ (.int .i64 (IntKind.i64.wrap (tb - 1)))) m refs cn' last L ta1 az fl := fun V hV => by
    rw [IntWalk.i64_in (tb - 1) (by omega), ← hta1, htbv]
    exact hV.setTal hsb5 _
  have hi1 : (sb : Int) < 5 := by omega
  have hi0 : ¬ (sb : Int) < 0 := by omega
  have hTA := Lib.hid hta1
  clear htbv hta1
  repeat (first | (apply wpR_one; (case ho => (simp only [List.getElem?_toArray, List.getElem?_cons_succ, List.getElem?_cons_zero]; try exact rfl)); (case hw => rfl); (case hl => rfl); (case hsp => rfl); (case he => rfl); (case hv => (intro w' hw'; (try (have hw2 := Ext.trans hEW hw')); (try (have hw3 := Exc.trans hEW hw')); (try (have hw4 := Exk.trans hEW hw')); (try (have hw5 := Mrk.trans hEW hw')); go_simp; exact rfl)); (case hw0 => (first | exact Below.refl _ _ | exact Exc.of_ext (Below.refl _ _) | exact Exk.of_ext (Below.refl _ _) | exact Mrk.of_ext (Below.refl _ _))); simp only [Act.put, List.setIfInBounds_toArray, List.set_cons_succ, List.set_cons_zero]) | (apply wpR_early; (case ho => (simp only [List.getElem?_toArray, List.getElem?_cons_succ, List.getElem?_cons_zero]; try exact rfl)); (case hw => rfl); (case hl => rfl); (case hsp => rfl); (case he => rfl); (case hv => (intro w' hw'; (try have hw2 := Ext.trans hEW hw'); go_simp; exact rfl)); simp only [Act.put, List.setIfInBounds_toArray, List.set_cons_succ, List.set_cons_zero]) | (apply wpR_pass; (case ho => (simp only [List.getElem?_toArray, List.getElem?_cons_succ, List.getElem?_cons_zero]; try exact rfl)); (case hw => rfl); (case hl => rfl); simp only [Act.put, List.setIfInBounds_toArray, List.set_cons_succ, List.set_cons_zero]))
  refine wpR_late (by ((simp only [List.getElem?_toArray, List.getElem?_cons_succ, List.getElem?_cons_zero]; try exact rfl))) _ rfl rfl (fun V v => fun _ _ h he => PoolM.ext h he) (fun V V' h => rfl) (fun w' hw' hK hF => ?_) (fun v hv => ?_)
  · have hF2 : PoolM B w' m refs cn' last L ta az fl := hF
    have c4 := e5
    have f4 := hF2.f (4 + sb)
    have c5 := hF2.c4 hsb5
    have h7 := hX3 _ hF2
    clear hF hF2 e5 c4
    unfold opAt
    go_simp
    exact ⟨undef, rfl, setCell_excp _ _ _ _, h7⟩
  clear hv
  simp only [Act.put, List.setIfInBounds_toArray, List.set_cons_succ, List.set_cons_zero]
  apply wpR_nil
  apply hN
  intro w2 hE2 hK hF
  have h3 : PoolM B w2 m refs cn' last L ta1 az fl := hF
  have hx3 := hx2.trans (hfm ((Exc.of_ext hW).trans hE2))
  clear hK hN hF e5 hX3 hEW hE2 hW hF0 h2 hx2 htb htb' hi0 hi1
  go_wp2
  refine wp_region_rg (Exc fun q _ => q = m.p) (rel_exc _) (fun V => PoolM B V m refs cn' last L ta1 az fl) [0, 1, 2, 3, 4, 5, 6, 7, 8, 9, 10] (fun _ => none) (fun i => match i with
    | 10 => some fun _ _ V => PoolM B V m refs cn' last L (ta1.set sn (ta1.getD sn 0 + 1)) az fl
    | _ => none) (fun i => match i with | 5 => true | _ => false) (by kernel_rfl) (by kernel_rfl) (fun _ _ h he => h.ext he) (h3.ext (Below.refl _ _).drew) (fun W N hW hF0 hN => ?_)
  have hEW : Exc (fun q _ => q = m.p) W W := exc_refl _ _
  have hX3 : ∀ V z, z = ta1.getD sn 0 + 1 → PoolM B V m refs cn' last L ta1 az fl → PoolM B (V.setCell ⟨m.p, 4 + sn, none⟩ (.int .i64 z)) m refs cn' last L (ta1.set sn (ta1.getD sn 0 + 1)) az fl := fun V z hz hV => by
    rw [hz]
    exact hV.setTal hsn5 _
  obtain ⟨tb, htbv⟩ : ∃ z, ta1.getD sn 0 = z := ⟨_, rfl⟩
  have e5 : ∀ w', Ext W w' → w'.cell? ⟨m.p, 4 + sn, none⟩ = some (.int .i64 tb) := fun w' hh => by rw [← htbv]; exact (hF0.ext hh).c4 hsn5
  have htb' : -3 ≤ tb ∧ tb ≤ 65538 := by rw [← htbv]; exact htn
  have hXX := fun V => hX3 V (IntKind.i64.wrap (tb + 1)) (by rw [IntWalk.i64_in (tb + 1) (by omega), htbv])
  have hi1 : (sn : Int) < 5 := by omega
  have hi0 : ¬ (sn : Int) < 0 := by omega
  have HTB := Lib.hid htbv
  clear htbv hX3
  repeat (first | (apply wpR_one; (case ho => (simp only [List.getElem?_toArray, List.getElem?_cons_succ, List.getElem?_cons_zero]; try exact rfl)); (case hw => rfl); (case hl => rfl); (case hsp => rfl); (case he => rfl); (case hv => (intro w' hw'; (try (have hw2 := Ext.trans hEW hw')); (try (have hw3 := Exc.trans hEW hw')); (try (have hw4 := Exk.trans hEW hw')); (try (have hw5 := Mrk.trans hEW hw')); go_simp; exact rfl)); (case hw0 => (first | exact Below.refl _ _ | exact Exc.of_ext (Below.refl _ _) | exact Exk.of_ext (Below.refl _ _) | exact Mrk.of_ext (Below.refl _ _))); simp only [Act.put, List.setIfInBounds_toArray, List.set_cons_succ, List.set_cons_zero]) | (apply wpR_early; (case ho => (simp only [List.getElem?_toArray, List.getElem?_cons_succ, List.getElem?_cons_zero]; try exact rfl)); (case hw => rfl); (case hl => rfl); (case hsp => rfl); (case he => rfl); (case hv => (intro w' hw'; (try have hw2 := Ext.trans hEW hw'); go_simp; exact rfl)); simp only [Act.put, List.setIfInBounds_toArray, List.set_cons_succ, List.set_cons_zero]) | (apply wpR_pass; (case ho => (simp only [List.getElem?_toArray, List.getElem?_cons_succ, List.getElem?_cons_zero]; try exact rfl)); (case hw => rfl); (case hl => rfl); simp only [Act.put, List.setIfInBounds_toArray, List.set_cons_succ, List.set_cons_zero]))
  refine wpR_late (by ((simp only [List.getElem?_toArray, List.getElem?_cons_succ, List.getElem?_cons_zero]; try exact rfl))) _ rfl rfl (fun V v => fun _ _ h he => PoolM.ext h he) (fun V V' h => rfl) (fun w' hw' hK hF => ?_) (fun v hv => ?_)
  · have hF2 : PoolM B w' m refs cn' last L ta1 az fl := hF
    have f4 := hF2.f (4 + sn)
    have c5 := hF2.c4 hsn5
    have h7 := hXX _ hF2
    clear hF hF2 e5
    unfold opAt
    go_simp
    exact ⟨undef, rfl, setCell_excp _ _ _ _, h7⟩
  clear hv
  simp only [Act.put, List.setIfInBounds_toArray, List.set_cons_succ, List.set_cons_zero]
  apply wpR_nil
  apply hN
  intro w4 hE4 hK hF
  have h4 : PoolM B w4 m refs cn' last L (ta1.set sn (ta1.getD sn 0 + 1)) az fl := hF
  have hx4 := hx3.trans (hfm ((Exc.of_ext hW).trans hE4))
  have etT : ta1.set sn (ta1.getD sn 0 + 1) = turnT sb sn ta := by unfold turnT; rw [hTA.out]
  rw [etT] at h4
  clear hK hN hF e5 hXX hEW hE4 hW hF0 h3 hx3 htb' hi0 hi1 etT HTB htn hTA
  have c3 : w4.cell? ⟨m.p, 3, none⟩ = some (.pointer (some ⟨m.fp, 0, none⟩)) := h4.c 3
  have hkb : (1 : Int) ≤ (k : Int) + 1 ∧ (k : Int) + 1 ≤ 65536 := by omega
  have hbd : Bdi ⟨(k : Int) + 1, (k : Int) + 1⟩ := ⟨⟨by show _ ≤ (k : Int) + 1; omega, by show (k : Int) + 1 ≤ _; omega⟩, by show _ ≤ (k : Int) + 1; omega, by show (k : Int) + 1 ≤ _; omega⟩
  by_cases q0 : sb = sn
  · have q0' : (sb : Int) = (sn : Int) := by omega
    have r1 : turnL (sb : Int) (sn : Int) L ((k : Int) + 1) = L := if_pos q0'
    have q1 : (sb : Int) ≤ (sn : Int) := by omega
    have q2 : (sn : Int) ≤ (sb : Int) := by omega
    have HTZ := Lib.hid (HTL.out.symm.trans r1)
    clear r1 q0 q0'
    go_wp2
    refine bodyPost_ret (results_none rfl _ _ _) rfl ?_
    exact ⟨m.fA, m.fc, rfl, HTZ.out ▸ h4, hx4, fun q hq => .inl hq⟩
  · have q0' : ¬ (sb : Int) = (sn : Int) := by omega
    by_cases q1 : sb = 1
    · have r1 : turnL (sb : Int) (sn : Int) L ((k : Int) + 1) = remL L ((k : Int) + 1) ((k : Int) + 1) := by unfold turnL; rw [if_neg q0', if_pos (show (sb : Int) = 1 by omega)]
      have q1a : (sb : Int) ≤ 1 := by omega
      have q1b : 1 ≤ (sb : Int) := by omega
      clear q1
      have HT1 := Lib.hid (HTL.out.symm.trans r1)
      clear r1
      have q2 : ¬ (sn : Int) = 1 := by omega
      go_wp2_with fail
      refine (rem_allFi h4.fr (by omega) hbd h4.geF (by have := hx4.size; omega)).mono ?_
      rintro e w5 ⟨A', c', rfl, hS, hX, hr⟩
      rw [show remA L ((k : Int) + 1) ((k : Int) + 1) = remL L ((k : Int) + 1) ((k : Int) + 1) from if_pos (Int.le_refl _)] at hS hr
      have h5 := h4.turnF hX hS
      have hx5 : Exc (fun q _ => m.foot q) w w5 := hx4.trans ⟨hX.os, hX.tape, hX.output, hX.size, fun q o ho hn => hX.block q o ho (fun e => hn (.inr (.inr (.inr (.inl e)))))⟩
      have hs4 := hx4.size
      have hfr : ∀ q, blkOf A' = some q → blkOf m.fA = some q ∨ w.heap.size ≤ q := fun q hq => by
        rcases hr with hr | ⟨rfl, _, _⟩
        · have := World.ownsRow.lt hr q (by rw [ownBlock_eq]; exact hq)
          exact .inr (by omega)
        · exact .inl hq
      clear hS hX hr h4 hx4
      go_wp2
      go_end0
      exact ⟨A', c', rfl, HT1.out ▸ h5, hx5, hfr⟩
    · have q1' : ¬ (sb : Int) = 1 := by omega
      by_cases q2 : sn = 1
      · have r1 : turnL (sb : Int) (sn : Int) L ((k : Int) + 1) = addL L ⟨(k : Int) + 1, (k : Int) + 1⟩ := by unfold turnL; rw [if_neg q0', if_neg q1', if_pos (show (sn : Int) = 1 by omega)]
        have q2a : (sn : Int) ≤ 1 := by omega
        have q2b : 1 ≤ (sn : Int) := by omega
        clear q2
        have HT1 := Lib.hid (HTL.out.symm.trans r1)
        clear r1
        go_wp2_with fail
        refine (add_allFi h4.fr (by omega) hbd h4.geF (by have := hx4.size; omega)).mono ?_
        rintro e w5 ⟨A', c', rfl, hS, hX, hr⟩
        have h5 := h4.turnF hX hS
        have hx5 : Exc (fun q _ => m.foot q) w w5 := hx4.trans ⟨hX.os, hX.tape, hX.output, hX.size, fun q o ho hn => hX.block q o ho (fun e => hn (.inr (.inr (.inr (.inl e)))))⟩
        have hs4 := hx4.size
        have hfr : ∀ q, blkOf A' = some q → blkOf m.fA = some q ∨ w.heap.size ≤ q := fun q hq => by
          rcases hr with hr | ⟨rfl, _, _⟩
          · have := World.ownsRow.lt hr q (by rw [ownBlock_eq]; exact hq)
            exact .inr (by omega)
          · exact .inl hq
        clear hS hX hr h4 hx4
        go_wp2
        go_end0
        exact ⟨A', c', rfl, HT1.out ▸ h5, hx5, hfr⟩
      · have q2' : ¬ (sn : Int) = 1 := by omega
        have r1 : turnL (sb : Int) (sn : Int) L ((k : Int) + 1) = L := by unfold turnL; rw [if_neg q0', if_neg q1', if_neg q2']
        have HT1 := Lib.hid (HTL.out.symm.trans r1)
        clear r1
        go_wp2
        go_end0
        exact ⟨m.fA, m.fc, rfl, HT1.out ▸ h4, hx4, fun q hq => .inl hq⟩
end
end Go.Proofs.Ytaalhicdeibodaa
