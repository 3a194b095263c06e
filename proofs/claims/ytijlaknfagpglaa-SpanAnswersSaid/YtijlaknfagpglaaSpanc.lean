/- Contracts of span's and the reference's questions about a range. No condition but that each list lies in memory as a slice. -/
import Derived.Test.YtijlaknfagpglaaSpanb
import Derived.Shelf.Bytes.SlEqualAll
namespace Go.Proofs.Ytijlaknfagpglaa
open Go.RowKit Go.Proofs
theorem results_row_tmp {P : Program} {fn : Func} {p u : Tmp} {ty : TypeId} (h : fn.results = #[.cell p ty, .tmp u]) (tmps : Array Value) (w : World) (g : Nat) (t : TypeId) (cs : Array Value) (fr : Nat × Nat) (d : TypeDesc)
    (hp : tmps.getD p undef = .pointer (some ⟨g, 0, none⟩)) (hg : w.heap[g]? = some (.cells cs t fr))
    (hu : P.underlying ty = some d) (hd : (match d with | .struct _ | .array _ _ => true | _ => false) = true) (hi : (P.info? ty).map (·.size) = some cs.size) :
    (results fn tmps).run P w = .ok (.tuple #[.agg cs, tmps.getD u undef]) w := by
  rw [results_cell_tmp h]
  simp only [hp, asAddr, Sem.run_pure, Result.andThen_ok, run_loadVar_row w g t ty cs fr d hg hu hd hi]
theorem results_row_row {P : Program} {fn : Func} {p u : Tmp} {ty tz : TypeId} (h : fn.results = #[.cell p ty, .cell u tz]) (tmps : Array Value) (w : World) (g g' : Nat) (t t' : TypeId) (cs cs' : Array Value) (fr fr' : Nat × Nat) (d d' : TypeDesc)
    (hp : tmps.getD p undef = .pointer (some ⟨g, 0, none⟩)) (hg : w.heap[g]? = some (.cells cs t fr))
    (hu : P.underlying ty = some d) (hd : (match d with | .struct _ | .array _ _ => true | _ => false) = true) (hi : (P.info? ty).map (·.size) = some cs.size)
    (hp' : tmps.getD u undef = .pointer (some ⟨g', 0, none⟩)) (hg' : w.heap[g']? = some (.cells cs' t' fr'))
    (hu' : P.underlying tz = some d') (hd' : (match d' with | .struct _ | .array _ _ => true | _ => false) = true) (hi' : (P.info? tz).map (·.size) = some cs'.size) :
    (results fn tmps).run P w = .ok (.tuple #[.agg cs, .agg cs']) w := by
  have e1 : tmps[p]?.getD undef = .pointer (some ⟨g, 0, none⟩) := by simpa using hp
  have e2 : tmps[u]?.getD undef = .pointer (some ⟨g', 0, none⟩) := by simpa using hp'
  simp [results, h, e1, e2, asAddr, Sem.run_bind, Result.andThen, run_loadVar_row w g t ty cs fr d hg hu hd hi, run_loadVar_row w g' t' tz cs' fr' d' hg' hu' hd' hi']
theorem nil_len (l : List UInt8) : decide (l = []) = ((l.length : Int) == 0) := by cases l <;> simp; omega
theorem has_key {r : Rg} {k : List UInt8} (h : isKeyB k = false) : hasB r k = false := by simp [hasB, h]
theorem has_lo {r : Rg} {k : List UInt8} (h : cmpB k r.lo < 0) : hasB r k = false := by
  have : ¬ LeB r.lo k := by rw [← ge_iff]; omega
  simp [hasB, this]
theorem has_op {lo hi k : List UInt8} (h : isKeyB k = true) (h0 : 0 ≤ cmpB k lo) : hasB ⟨lo, hi, true⟩ k = true := by
  simp [hasB, h, ge_iff.1 h0]
theorem has_hi {lo hi k : List UInt8} (h : isKeyB k = true) (h0 : 0 ≤ cmpB k lo) (h1 : cmpB k hi < 0) : hasB ⟨lo, hi, false⟩ k = true := by
  have : LtB k hi := h1
  simp [hasB, h, ge_iff.1 h0, this]
theorem has_not {lo hi k : List UInt8} (h1 : 0 ≤ cmpB k hi) : hasB ⟨lo, hi, false⟩ k = false := by
  have : ¬ LtB k hi := LtB.not.2 (ge_iff.1 h1)
  simp [hasB, this]
theorem has_any {lA hA A : Option Addr} {lc hc c n : Nat} {lo hi k : List UInt8} {op : Bool} {w : World} (hlo : Sl w lA lc lo) (hhi : Sl w hA hc hi) (hk : Sl w A c k) (hn : n = k.length) :
    Calls Try.prog 27 #[.agg #[.slice lA lo.length lc, .slice hA hi.length hc, .bool op], .slice A n c] w fun e w' => e = .returned (.bool (hasB ⟨lo, hi, op⟩ k)) ∧ Ext w w' := by
  subst hn
  obtain ⟨q, hq⟩ : ∃ q, isKeyB k = q := ⟨_, rfl⟩
  go_enter Try.func27, Try.ntmps27
  go_wp2_with fail
  refine (isKey_any (bs := k) rfl).mono ?_
  rintro e w1 ⟨rfl, rfl⟩
  rw [hq]
  cases q
  · have HB := Lib.hid (has_key (r := ⟨lo, hi, op⟩) hq)
    clear hq
    go_wp2
    go_ret
    exact ⟨ret_bool HB.out.symm, ext_alloc _ _⟩
  · have HQ := Lib.hid hq
    clear hq
    go_wp2_with fail
    refine (bcompare_any (hk.ext (ext_alloc _ _)) (hlo.ext (ext_alloc _ _))).mono ?_
    rintro e w2 ⟨rfl, hE2⟩
    have hb2 := hE2.blk (heap_alloc_new w _)
    have f2 : w2.cell? ⟨w.heap.size, 2, none⟩ = some (.bool op) := cell_of_row _ _ _ _ _ _ hb2
    have f1 : w2.cell? ⟨w.heap.size, 1, none⟩ = some (.slice hA hi.length hc) := cell_of_row _ _ _ _ _ _ hb2
    have hE3 := (ext_alloc w _).trans hE2
    clear hb2
    rcases Int.lt_or_le (cmpB k lo) 0 with h0 | h0
    · have HB := Lib.hid (has_lo (r := ⟨lo, hi, op⟩) h0)
      go_wp2
      go_ret
      exact ⟨ret_bool HB.out.symm, hE3⟩
    · cases op
      · go_wp2_with fail
        refine (bcompare_any (hk.ext hE3) (hhi.ext hE3)).mono ?_
        rintro e w3 ⟨rfl, hE4⟩
        rcases Int.lt_or_le (cmpB k hi) 0 with h1 | h1
        · have HB := Lib.hid (has_hi HQ.out h0 h1)
          go_wp2
          go_ret
          exact ⟨ret_bool (by rw [HB.out]; (first | done | (simp <;> omega))), hE3.trans hE4⟩
        · have HB := Lib.hid (has_not (lo := lo) h1)
          go_wp2
          go_ret
          exact ⟨ret_bool (by rw [HB.out]; (first | done | (simp <;> omega))), hE3.trans hE4⟩
      · have HB := Lib.hid (has_op (hi := hi) HQ.out h0)
        go_wp2
        go_ret
        exact ⟨ret_bool HB.out.symm, hE3⟩
theorem rhas_any {lA hA A : Option Addr} {lc hc c n : Nat} {lo hi k : List UInt8} {op : Bool} {w : World} (hlo : Sl w lA lc lo) (hhi : Sl w hA hc hi) (hk : Sl w A c k) (hn : n = k.length) :
    Calls Try.prog 59 #[.agg #[.slice lA lo.length lc, .slice hA hi.length hc, .bool op], .slice A n c] w fun e w' => e = .returned (.bool (hasB ⟨lo, hi, op⟩ k)) ∧ Ext w w' := by
  subst hn
  obtain ⟨q, hq⟩ : ∃ q, isKeyB k = q := ⟨_, rfl⟩
  go_enter Try.func59, Try.ntmps59
  go_wp2_with fail
  refine (rkey_any (bs := k) rfl).mono ?_
  rintro e w1 ⟨rfl, rfl⟩
  rw [hq]
  cases q
  · have HB := Lib.hid (has_key (r := ⟨lo, hi, op⟩) hq)
    clear hq
    go_wp2
    go_ret
    exact ⟨ret_bool HB.out.symm, ext_alloc _ _⟩
  · have HQ := Lib.hid hq
    clear hq
    go_wp2_with fail
    refine (compare_any (hk.ext (ext_alloc _ _)) (hlo.ext (ext_alloc _ _))).mono ?_
    rintro e w2 ⟨rfl, hE2⟩
    have hb2 := hE2.blk (heap_alloc_new w _)
    have f2 : w2.cell? ⟨w.heap.size, 2, none⟩ = some (.bool op) := cell_of_row _ _ _ _ _ _ hb2
    have f1 : w2.cell? ⟨w.heap.size, 1, none⟩ = some (.slice hA hi.length hc) := cell_of_row _ _ _ _ _ _ hb2
    have hE3 := (ext_alloc w _).trans hE2
    clear hb2
    rcases Int.lt_or_le (cmpB k lo) 0 with h0 | h0
    · have HB := Lib.hid (has_lo (r := ⟨lo, hi, op⟩) h0)
      go_wp2
      go_ret
      exact ⟨ret_bool HB.out.symm, hE3⟩
    · cases op
      · go_wp2_with fail
        refine (compare_any (hk.ext hE3) (hhi.ext hE3)).mono ?_
        rintro e w3 ⟨rfl, hE4⟩
        rcases Int.lt_or_le (cmpB k hi) 0 with h1 | h1
        · have HB := Lib.hid (has_hi HQ.out h0 h1)
          go_wp2
          go_ret
          exact ⟨ret_bool (by rw [HB.out]; (first | done | (simp <;> omega))), hE3.trans hE4⟩
        · have HB := Lib.hid (has_not (lo := lo) h1)
          go_wp2
          go_ret
          exact ⟨ret_bool (by rw [HB.out]; (first | done | (simp <;> omega))), hE3.trans hE4⟩
      · have HB := Lib.hid (has_op (hi := hi) HQ.out h0)
        go_wp2
        go_ret
        exact ⟨ret_bool HB.out.symm, hE3⟩
theorem empty_any {lA hA : Option Addr} {lc hc : Nat} {lo hi : List UInt8} {op : Bool} {w : World} (hlo : Sl w lA lc lo) (hhi : Sl w hA hc hi) :
    Calls Try.prog 23 #[.agg #[.slice lA lo.length lc, .slice hA hi.length hc, .bool op]] w fun e w' => e = .returned (.bool (emptyB ⟨lo, hi, op⟩)) ∧ Ext w w' := by
  go_enter Try.func23, Try.ntmps23
  go_wp2
  refine wp_cut (fun W => Ext w W ∧ W.heap[w.heap.size]? = some (.cells #[.slice lA lo.length lc, .slice hA hi.length hc, .bool op] 32)) ⟨ext_alloc _ _, heap_alloc_new _ _⟩ ?_
  rintro w1 ⟨hE, hb1⟩
  refine wp_region_mild 6 (fun i => match i with
    | 3 => some fun _ v w' => SOwn 5 w1.heap.size (fromB lo) v w'
    | 4 => some fun _ v w' => v = .bool (hasB ⟨lo, hi, op⟩ (fromB lo))
    | _ => none) (by kernel_rfl) (by kernel_rfl) (fun W N hW hN => ?_)
  have hE1 := hE.trans hW
  have e0 : ∀ w', Ext W w' → w'.cell? ⟨w.heap.size, 0, none⟩ = some (.slice lA lo.length lc) := fun w' h => cell_of_row _ _ _ _ _ _ ((hW.trans h).blk hb1)
  have e1 : ∀ w', Ext W w' → w'.cell? ⟨w.heap.size, 1, none⟩ = some (.slice hA hi.length hc) := fun w' h => cell_of_row _ _ _ _ _ _ ((hW.trans h).blk hb1)
  have e2 : ∀ w', Ext W w' → w'.cell? ⟨w.heap.size, 2, none⟩ = some (.bool op) := fun w' h => cell_of_row _ _ _ _ _ _ ((hW.trans h).blk hb1)
  simp only [List.take_succ_cons, List.take_zero]
  repeat (apply wpM_one; (case hg => rfl); (case hsp => rfl); (case hv => (intro w' hw'; go_simp; exact rfl)); simp only [Act.put, List.setIfInBounds_toArray, List.set_cons_succ, List.set_cons_zero])
  refine wpM_new _ rfl rfl (fun V v => SOwn.stable _ _ _ _) (fun V V' h => rfl) (fun w' hw' hK => ?_) (fun v hv => ?_)
  · unfold mildAt; go_simp; rw [mildUpon_enter]
    refine ⟨Below.refl _ _, (from_any (hlo.ext (hE1.trans hw')) rfl).mono ?_⟩
    rintro e w2 ⟨A, c, rfl, ho, hE2⟩
    exact ⟨_, rfl, hE2, A, c, rfl, ho.mono (hW.trans hw').size⟩
  obtain ⟨_, _, _, A1, c1, rfl, _⟩ := hv
  simp only [Act.put, List.setIfInBounds_toArray, List.set_cons_succ, List.set_cons_zero]
  repeat (apply wpM_one; (case hg => rfl); (case hsp => rfl); (case hv => (intro w' hw'; go_simp; exact rfl)); simp only [Act.put, List.setIfInBounds_toArray, List.set_cons_succ, List.set_cons_zero])
  refine wpM_new _ rfl rfl (fun V v => Stable.pure) (fun V V' h => rfl) (fun w' hw' hK => ?_) (fun v hv => ?_)
  · have k3 := (hK 3 (by kernel_rfl)).2
    have hs := k3.own.sl (Nat.le_trans (fromB_length lo) (by omega))
    unfold mildAt; go_simp; rw [mildUpon_enter]
    refine ⟨Below.refl _ _, (has_any (hlo.ext (hE1.trans hw')) (hhi.ext (hE1.trans hw')) hs rfl).mono ?_⟩
    rintro e w2 ⟨rfl, hE2⟩
    exact ⟨_, rfl, hE2, rfl⟩
  obtain ⟨_, _, _, rfl⟩ := hv
  simp only [Act.put, List.setIfInBounds_toArray, List.set_cons_succ, List.set_cons_zero]
  repeat (apply wpM_one; (case hg => rfl); (case hsp => rfl); (case hv => (intro w' hw'; go_simp; exact rfl)); simp only [Act.put, List.setIfInBounds_toArray, List.set_cons_succ, List.set_cons_zero])
  apply wpM_nil
  apply hN
  intro w' hE' hK
  clear hK hN
  go_wp2
  go_ret
  exact ⟨rfl, hE1.trans hE'⟩
/-- A range that a call has made: both lists its own, in blocks of their own. -/
def ROwn (B : Nat) (w : World) (lA : Option Addr) (lc : Nat) (hA : Option Addr) (hc : Nat) (r : Rg) : Prop :=
  Own 5 B w lA lc r.lo ∧ Own 5 B w hA hc r.hi ∧ NoShare (.slice lA r.lo.length lc) (.slice hA r.hi.length hc)
theorem own_nil (e : TypeId) (B : Nat) (w : World) : Own e B w none 0 [] := ⟨rfl, .inl ⟨rfl, rfl⟩⟩
theorem noShare_nil (v : Value) : NoShare v (.slice none 0 0) := fun g _ h => by cases h
theorem noShare_nil' (v : Value) : NoShare (.slice none 0 0) v := fun g h => by cases h
def rgOf : Option Rg → Rg
  | some r => r
  | none => ⟨[], [], false⟩
set_option maxHeartbeats 400000 in
theorem form_any {lA hA : Option Addr} {lc hc : Nat} {lo hi : List UInt8} {op : Bool} {w : World} (hlo : Sl w lA lc lo) (hhi : Sl w hA hc hi) :
    Calls Try.prog 50 #[.agg #[.slice lA lo.length lc, .slice hA hi.length hc, .bool op]] w fun e w' => ∃ A c B d r,
      r = rgOf (formB ⟨lo, hi, op⟩) ∧ e = .returned (.tuple #[.agg #[.slice A r.lo.length c, .slice B r.hi.length d, .bool r.op], .bool (formB ⟨lo, hi, op⟩).isSome]) ∧ ROwn w.heap.size w' A c B d r ∧ Ext w w' := by
  go_enter Try.func50, Try.ntmps50
  go_wp2_with fail
  have hE0 : Ext w ((w.alloc (.cells #[.slice lA lo.length lc, .slice hA hi.length hc, .bool op] 32 (0, 0))).alloc (.cells #[.slice none 0 0, .slice none 0 0, .bool false] 32 (0, 0))) := (ext_alloc _ _).trans (ext_alloc _ _)
  refine (from_any (hlo.ext hE0) rfl).mono ?_
  rintro e w1 ⟨A', c', rfl, ho, hE⟩
  have hb1 := hE.blk (show (((w.alloc _).alloc _).heap)[w.heap.size]? = some _ by rw [Below.heap_alloc _ _ _ (by simp)]; exact heap_alloc_new _ _)
  have hb2 := hE.blk (show (((w.alloc _).alloc _).heap)[w.heap.size + 1]? = some _ by rw [show w.heap.size + 1 = (w.alloc _).heap.size from (World.size_alloc _ _).symm]; exact heap_alloc_new _ _)
  have f0 : w1.cell? ⟨w.heap.size, 0, none⟩ = some (.slice lA lo.length lc) := cell_of_row _ _ _ _ _ _ hb1
  have f1 : w1.cell? ⟨w.heap.size, 1, none⟩ = some (.slice hA hi.length hc) := cell_of_row _ _ _ _ _ _ hb1
  have f2 : w1.cell? ⟨w.heap.size, 2, none⟩ = some (.bool op) := cell_of_row _ _ _ _ _ _ hb1
  have hE1 := hE0.trans hE
  have ho1 := ho.mono (show w.heap.size + 2 ≤ _ by simp)
  clear hE
  go_wp2_with fail
  refine (has_any (hlo.ext hE1) (hhi.ext hE1) (ho1.sl (Nat.le_trans (fromB_length lo) (by omega))) rfl).mono ?_
  rintro e w2 ⟨rfl, hE2⟩
  obtain ⟨q, hq⟩ : ∃ q, hasB ⟨lo, hi, op⟩ (fromB lo) = q := ⟨_, rfl⟩
  have hb1 := hE2.blk hb1
  have hb2 := hE2.blk hb2
  have f0 : w2.cell? ⟨w.heap.size, 0, none⟩ = some (.slice lA lo.length lc) := cell_of_row _ _ _ _ _ _ hb1
  have f1 : w2.cell? ⟨w.heap.size, 1, none⟩ = some (.slice hA hi.length hc) := cell_of_row _ _ _ _ _ _ hb1
  have f2 : w2.cell? ⟨w.heap.size, 2, none⟩ = some (.bool op) := cell_of_row _ _ _ _ _ _ hb1
  have hE3 := hE1.trans hE2
  have ho3 := ho1.ext hE2
  have hlt := (Array.getElem?_eq_some_iff.1 hb2).1
  rw [hq]
  cases q
  · have HQ := Lib.hid (show formB ⟨lo, hi, op⟩ = none by unfold formB; rw [if_neg (by rw [hq]; simp)])
    clear hq
    go_wp2_with (refine wpList_store_box rfl 32 _ _ rfl (w.heap.size + 1) _ rfl rfl 32 _ hb2 (by kernel_rfl) rfl (by simp [Value.oneCell']) ?_; intro w3 hb3 hg3)
    have hE4 := ext_only hE3 hg3 (Nat.le_succ _)
    go_wp2
    exact bodyPost_ret (results_row_tmp rfl _ _ _ _ _ _ _ rfl hb3 Try.underlying32 rfl (by kernel_rfl)) rfl ⟨none, 0, none, 0, ⟨[], [], false⟩, by rw [HQ.out]; rfl, by rw [HQ.out]; rfl, ⟨own_nil _ _ _, own_nil _ _ _, noShare_nil _⟩, hE4⟩
  · cases op
    · have HQ := Lib.hid (show formB ⟨lo, hi, false⟩ = some ⟨fromB lo, fromB hi, decide (fromB hi = [])⟩ by unfold formB; rw [if_pos hq]; rfl)
      clear hq
      go_wp2_with fail
      refine (from_any (hhi.ext hE3) rfl).mono ?_
      rintro e w4 ⟨B', d', rfl, hp, hE4⟩
      have hb2 := hE4.blk hb2
      have hns := Lib.hid (noShare_of ho3 (Nat.le_refl _) hp)
      have ho4 := ho3.ext hE4
      have hp4 := hp.mono (Nat.succ_le_of_lt hlt)
      have hE5 := hE3.trans hE4
      clear hE4 hp
      go_wp2_with (refine wpList_store_box rfl 32 _ _ rfl (w.heap.size + 1) _ rfl rfl 32 _ hb2 (by kernel_rfl) rfl (by simp [Value.oneCell']) ?_; intro w3 hb3 hg3)
      have hE6 := ext_only hE5 hg3 (Nat.le_succ _)
      have ho5 := (ho4.only hg3 (Nat.lt_succ_self _)).mono (Nat.le_add_right _ _)
      have hp5 := (hp4.only hg3 (Nat.lt_succ_self _)).mono (show w.heap.size ≤ _ by omega)
      go_wp2
      exact bodyPost_ret (results_row_tmp rfl _ _ _ _ _ _ _ rfl hb3 Try.underlying32 rfl (by kernel_rfl)) rfl ⟨_, _, _, _, ⟨fromB lo, fromB hi, decide (fromB hi = [])⟩, by rw [HQ.out]; rfl, by rw [HQ.out]; simp only [Option.isSome_some]; rw [nil_len]; rfl, ⟨ho5, hp5, hns.out⟩, hE6⟩
    · have HQ := Lib.hid (show formB ⟨lo, hi, true⟩ = some ⟨fromB lo, [], true⟩ by unfold formB; rw [if_pos hq]; rfl)
      clear hq
      go_wp2_with (refine wpList_store_box rfl 32 _ _ rfl (w.heap.size + 1) _ rfl rfl 32 _ hb2 (by kernel_rfl) rfl (by simp [Value.oneCell']) ?_; intro w3 hb3 hg3)
      have hE4 := ext_only hE3 hg3 (Nat.le_succ _)
      have ho5 := (ho3.only hg3 (Nat.lt_succ_self _)).mono (Nat.le_add_right _ _)
      go_wp2
      exact bodyPost_ret (results_row_tmp rfl _ _ _ _ _ _ _ rfl hb3 Try.underlying32 rfl (by kernel_rfl)) rfl ⟨A', c', none, 0, ⟨fromB lo, [], true⟩, by rw [HQ.out]; rfl, by rw [HQ.out]; rfl, ⟨ho5, own_nil _ _ _, noShare_nil _⟩, hE4⟩
end Go.Proofs.Ytijlaknfagpglaa
