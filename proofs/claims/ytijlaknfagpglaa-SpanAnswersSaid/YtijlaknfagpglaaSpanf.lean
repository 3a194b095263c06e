/- Contracts of the reference's From, ends, Empty, Common, greater, lesser; of span's more and less. No condition but that each list lies in memory as a slice. -/
import Derived.Test.YtijlaknfagpglaaSpand
import Derived.Test.YtijlaknfagpglaaSpane
namespace Go.Proofs.Ytijlaknfagpglaa
open Go.RowKit Go.Proofs
theorem eqb_any {A B : Option Addr} {c d n m : Nat} {xs ys : List UInt8} {w : World} (ha : Sl w A c xs) (hb : Sl w B d ys) (hn : n = xs.length) (hm : m = ys.length) :
    Calls Try.prog 18 #[.slice A n c, .slice B m d] w fun e w' => e = .returned (.bool (eqB xs ys)) ∧ Ext w w' := by
  subst hn
  subst hm
  exact eqBytes_any ha hb
theorem rfrom_any {A : Option Addr} {c n : Nat} {bs : List UInt8} {w : World} (h : Sl w A c bs) (hn : n = bs.length) :
    Calls Try.prog 69 #[.slice A n c] w fun e w' => ∃ A' c', e = .returned (.slice A' (fromB bs).length c') ∧ Own 5 w.heap.size w' A' c' (fromB bs) ∧ Ext w w' := by
  subst hn
  obtain ⟨q, hq⟩ : ∃ q, isKeyB bs = q := ⟨_, rfl⟩
  have hf : fromB bs = if q then bs else nextB bs := by unfold fromB; rw [hq]
  have hl := h.len
  cases q
  · have HF := Lib.hid hf
    have HQ := Lib.hid hq
    clear hf hq
    go_enter Try.func69, Try.ntmps69
    go_wp2_with fail
    refine (rkey_any (bs := bs) rfl).mono ?_
    rintro e w1 ⟨rfl, rfl⟩
    rw [HQ.out]
    go_wp2_with fail
    refine (rnext_any h rfl).mono ?_
    rintro e w1 ⟨A', c', rfl, ho, hE⟩
    go_wp2
    go_ret
    have e1 := HF.out
    simp only [Bool.false_eq_true, if_false] at e1
    rw [e1]
    exact ⟨A', c', rfl, ho, hE⟩
  · have HF := Lib.hid hf
    have HQ := Lib.hid hq
    clear hf hq
    go_enter Try.func69, Try.ntmps69
    go_wp2_with fail
    refine (rkey_any (bs := bs) rfl).mono ?_
    rintro e w1 ⟨rfl, rfl⟩
    rw [HQ.out]
    go_wp2_with fail
    refine (cpy_any h rfl).mono ?_
    rintro e w1 ⟨A', c', rfl, ho, hE⟩
    go_wp2
    go_ret
    have e1 := HF.out
    simp only [if_true] at e1
    rw [e1]
    exact ⟨_, _, rfl, ho, hE⟩
theorem form_nil {lo hi : List UInt8} {op : Bool} (h : (fromB lo).length = 0) : formB ⟨lo, hi, op⟩ = none := by
  have : fromB lo = [] := List.eq_nil_of_length_eq_zero h
  unfold formB
  rw [if_neg (by simp [this, hasB, isKeyB])]
set_option maxHeartbeats 1000000 in
theorem ends_any {lA hA : Option Addr} {lc hc : Nat} {lo hi : List UInt8} {op : Bool} {w : World} (hlo : Sl w lA lc lo) (hhi : Sl w hA hc hi) :
    Calls Try.prog 49 #[.agg #[.slice lA lo.length lc, .slice hA hi.length hc, .bool op]] w fun e w' => ∃ A c B d r,
      r = rgOf (formB ⟨lo, hi, op⟩) ∧ e = .returned (.tuple #[.slice A r.lo.length c, .slice B r.hi.length d, .bool (formB ⟨lo, hi, op⟩).isSome]) ∧ ROwn w.heap.size w' A c B d r ∧ Ext w w' := by
  go_enter Try.func49, Try.ntmps49
  go_wp2_with fail
  refine (rfrom_any (hlo.ext (ext_alloc _ _)) rfl).mono ?_
  rintro e w1 ⟨A', c', rfl, ho, hE⟩
  have hb1 := hE.blk (heap_alloc_new w _)
  have f0 : w1.cell? ⟨w.heap.size, 0, none⟩ = some (.slice lA lo.length lc) := cell_of_row _ _ _ _ _ _ hb1
  have f1 : w1.cell? ⟨w.heap.size, 1, none⟩ = some (.slice hA hi.length hc) := cell_of_row _ _ _ _ _ _ hb1
  have f2 : w1.cell? ⟨w.heap.size, 2, none⟩ = some (.bool op) := cell_of_row _ _ _ _ _ _ hb1
  have hE1 := (ext_alloc w _).trans hE
  have ho1 := ho.mono (ext_alloc w _).size
  clear hE
  have hl24 := fromB_length lo
  by_cases h0 : (fromB lo).length = 0
  · have HQ := Lib.hid (form_nil (hi := hi) (op := op) h0)
    go_wp2
    go_ret3
    exact ⟨none, 0, none, 0, ⟨[], [], false⟩, by rw [HQ.out]; rfl, by rw [HQ.out]; rfl, ⟨own_nil _ _ _, own_nil _ _ _, noShare_nil _⟩, hE1⟩
  · have h1 : 0 < (fromB lo).length := by omega
    have h2 : ¬ fromB lo = [] := List.length_pos_iff.1 h1
    clear h0
    go_wp2_with fail
    refine (rhas_any (hlo.ext hE1) (hhi.ext hE1) (ho1.sl (by omega)) rfl).mono ?_
    rintro e w2 ⟨rfl, hE2⟩
    obtain ⟨q, hq⟩ : ∃ q, hasB ⟨lo, hi, op⟩ (fromB lo) = q := ⟨_, rfl⟩
    have hb1 := hE2.blk hb1
    have f0 : w2.cell? ⟨w.heap.size, 0, none⟩ = some (.slice lA lo.length lc) := cell_of_row _ _ _ _ _ _ hb1
    have f1 : w2.cell? ⟨w.heap.size, 1, none⟩ = some (.slice hA hi.length hc) := cell_of_row _ _ _ _ _ _ hb1
    have f2 : w2.cell? ⟨w.heap.size, 2, none⟩ = some (.bool op) := cell_of_row _ _ _ _ _ _ hb1
    have hE3 := hE1.trans hE2
    have ho3 := ho1.ext hE2
    rw [hq]
    cases q
    · have HQ := Lib.hid (show formB ⟨lo, hi, op⟩ = none by unfold formB; rw [if_neg (by rw [hq]; simp)])
      clear hq
      go_wp2
      go_ret3
      exact ⟨none, 0, none, 0, ⟨[], [], false⟩, by rw [HQ.out]; rfl, by rw [HQ.out]; rfl, ⟨own_nil _ _ _, own_nil _ _ _, noShare_nil _⟩, hE3⟩
    · cases op
      · have HQ := Lib.hid (show formB ⟨lo, hi, false⟩ = some ⟨fromB lo, fromB hi, decide (fromB hi = [])⟩ by unfold formB; rw [if_pos hq]; rfl)
        clear hq
        go_wp2_with fail
        refine (rfrom_any (hhi.ext hE3) rfl).mono ?_
        rintro e w4 ⟨B', d', rfl, hp, hE4⟩
        have hns := Lib.hid (noShare_of ho3 (Nat.le_refl _) hp)
        have ho4 := ho3.ext hE4
        have hp4 := hp.mono hE3.size
        have hE5 := hE3.trans hE4
        go_wp2
        go_ret3
        exact ⟨_, _, _, _, ⟨fromB lo, fromB hi, decide (fromB hi = [])⟩, by rw [HQ.out]; rfl, by rw [HQ.out]; rfl, ⟨ho4, hp4, hns.out⟩, hE5⟩
      · have HQ := Lib.hid (show formB ⟨lo, hi, true⟩ = some ⟨fromB lo, [], true⟩ by unfold formB; rw [if_pos hq]; rfl)
        clear hq
        go_wp2
        go_ret3
        exact ⟨A', c', none, 0, ⟨fromB lo, [], true⟩, by rw [HQ.out]; rfl, by rw [HQ.out]; rfl, ⟨ho3, own_nil _ _ _, noShare_nil _⟩, hE3⟩
theorem empty_form (r : Rg) : emptyB r = !(formB r).isSome := by
  unfold emptyB formB
  split <;> rename_i h <;> simp [h]
theorem rempty_any {lA hA : Option Addr} {lc hc : Nat} {lo hi : List UInt8} {op : Bool} {w : World} (hlo : Sl w lA lc lo) (hhi : Sl w hA hc hi) :
    Calls Try.prog 24 #[.agg #[.slice lA lo.length lc, .slice hA hi.length hc, .bool op]] w fun e w' => e = .returned (.bool (emptyB ⟨lo, hi, op⟩)) ∧ Ext w w' := by
  have HQ := Lib.hid (empty_form ⟨lo, hi, op⟩)
  go_enter Try.func24, Try.ntmps24
  go_wp2_with fail
  refine (ends_any (hlo.ext (ext_alloc _ _)) (hhi.ext (ext_alloc _ _))).mono ?_
  rintro e w1 ⟨A, c, B, d, r, hr, rfl, hR, hE⟩
  have HR := Lib.hid hr
  clear hr
  go_wp2
  go_ret
  exact ⟨ret_bool (by rw [HQ.out]; cases formB ⟨lo, hi, op⟩ <;> rfl), (ext_alloc w _).trans hE⟩
theorem equal_ends (a b : Rg) : equalB a b = if (formB a).isSome && (formB b).isSome then eqB (rgOf (formB a)).lo (rgOf (formB b)).lo && eqB (rgOf (formB a)).hi (rgOf (formB b)).hi else (formB a).isSome == (formB b).isSome := by
  unfold equalB eqB
  rw [Bool.eq_iff_iff]
  cases ha : formB a <;> cases hb : formB b <;> simp [rgOf]
  rename_i x y
  have op_of : ∀ (a x : Rg), formB a = some x → x.op = decide (x.hi = []) := fun a x h => by
    unfold formB at h
    split at h
    · injection h with h
      subst h
      split <;> simp
    · cases h
  have h1 := op_of a x ha
  have h2 := op_of b y hb
  cases x
  cases y
  simp only at h1 h2
  simp only [Rg.mk.injEq]
  constructor
  · rintro ⟨h3, h4, h5⟩; exact ⟨decide_eq_true h3, decide_eq_true h4⟩
  · rintro ⟨h3, h4⟩
    have h5 := of_decide_eq_true h4
    exact ⟨of_decide_eq_true h3, h5, by rw [h1, h2, h5]⟩
set_option maxHeartbeats 1000000 in
theorem requal_any {lA hA mA jA : Option Addr} {lc hc mc jc : Nat} {lo hi mo ji : List UInt8} {op oq : Bool} {w : World} (hlo : Sl w lA lc lo) (hhi : Sl w hA hc hi) (hmo : Sl w mA mc mo) (hji : Sl w jA jc ji) :
    Calls Try.prog 26 #[.agg #[.slice lA lo.length lc, .slice hA hi.length hc, .bool op], .agg #[.slice mA mo.length mc, .slice jA ji.length jc, .bool oq]] w fun e w' => e = .returned (.bool (equalB ⟨lo, hi, op⟩ ⟨mo, ji, oq⟩)) ∧ Ext w w' := by
  have hq := Lib.hid (equal_ends ⟨lo, hi, op⟩ ⟨mo, ji, oq⟩)
  have l1 := form_len ⟨lo, hi, op⟩
  have l2 := form_len ⟨mo, ji, oq⟩
  have hE0 : Ext w ((w.alloc (.cells #[.slice lA lo.length lc, .slice hA hi.length hc, .bool op] 32 (0, 0))).alloc (.cells #[.slice mA mo.length mc, .slice jA ji.length jc, .bool oq] 32 (0, 0))) := (ext_alloc _ _).trans (ext_alloc _ _)
  go_enter Try.func26, Try.ntmps26
  go_wp2_with fail
  refine (ends_any (hlo.ext hE0) (hhi.ext hE0)).mono ?_
  rintro e w1 ⟨A, c, B, d, r, hr, rfl, hR, hE1⟩
  have hb2 := hE1.blk (show (((w.alloc _).alloc _).heap)[w.heap.size + 1]? = some _ by rw [show w.heap.size + 1 = (w.alloc _).heap.size from (World.size_alloc _ _).symm]; exact heap_alloc_new _ _)
  have f0 : w1.cell? ⟨w.heap.size + 1, 0, none⟩ = some (.slice mA mo.length mc) := cell_of_row _ _ _ _ _ _ hb2
  have f1 : w1.cell? ⟨w.heap.size + 1, 1, none⟩ = some (.slice jA ji.length jc) := cell_of_row _ _ _ _ _ _ hb2
  have f2 : w1.cell? ⟨w.heap.size + 1, 2, none⟩ = some (.bool oq) := cell_of_row _ _ _ _ _ _ hb2
  have hE2 := hE0.trans hE1
  have hrl : r.lo.length ≤ 24 ∧ r.hi.length ≤ 24 := by rw [hr]; exact l1
  have HR := Lib.hid hr
  clear hr
  go_wp2_with fail
  refine (ends_any (hmo.ext hE2) (hji.ext hE2)).mono ?_
  rintro e w3 ⟨A2, c2, B2, d2, r2, hr2, rfl, hR2, hE7⟩
  have hrl2 : r2.lo.length ≤ 24 ∧ r2.hi.length ≤ 24 := by rw [hr2]; exact l2
  have HR2 := Lib.hid hr2
  clear hr2
  obtain ⟨s1, hs1⟩ : ∃ s, (formB ⟨lo, hi, op⟩).isSome = s := ⟨_, rfl⟩
  obtain ⟨s2, hs2⟩ : ∃ s, (formB ⟨mo, ji, oq⟩).isSome = s := ⟨_, rfl⟩
  have HS1 := Lib.hid hs1
  have HS2 := Lib.hid hs2
  rw [hs1, hs2]
  clear hs1 hs2
  obtain ⟨rl, rh, ro⟩ := r
  obtain ⟨rl2, rh2, ro2⟩ := r2
  have o1 := (hR.1.sl (by omega)).ext hE7
  have o2 := (hR.2.1.sl (by omega)).ext hE7
  have o3 := hR2.1.sl (by omega)
  have o4 := hR2.2.1.sl (by omega)
  have hEE := hE2.trans hE7
  dsimp only at o1 o2 o3 o4 ⊢
  cases s1 <;> cases s2
  case true.true =>
    go_wp2_with fail
    refine (eqb_any o1 o3 rfl rfl).mono ?_
    rintro e w5 ⟨rfl, hE8⟩
    obtain ⟨q1, hq1⟩ : ∃ q, eqB rl rl2 = q := ⟨_, rfl⟩
    rw [hq1]
    have HQ1 := Lib.hid hq1
    clear hq1
    cases q1
    · go_wp2
      go_ret
      exact ⟨ret_bool (by rw [hq.out, ← HR.out, ← HR2.out, HS1.out, HS2.out]; simp only []; rw [HQ1.out]; rfl), hEE.trans hE8⟩
    · go_wp2_with fail
      refine (eqb_any (o2.ext hE8) (o4.ext hE8) rfl rfl).mono ?_
      rintro e w6 ⟨rfl, hE9⟩
      go_wp2
      go_ret
      exact ⟨ret_bool (by rw [hq.out, ← HR.out, ← HR2.out, HS1.out, HS2.out]; simp only []; rw [HQ1.out]; rfl), (hEE.trans hE8).trans hE9⟩
  all_goals
    go_wp2
    go_ret
    exact ⟨ret_bool (by rw [hq.out, HS1.out, HS2.out]; rfl), hEE⟩
set_option maxHeartbeats 400000 in
theorem rcommon_any {A B : Option Addr} {c d n m : Nat} {xs ys : List UInt8} {w : World} (ha : Sl w A c xs) (hb : Sl w B d ys) (hn : n = xs.length) (hm : m = ys.length) :
    Calls Try.prog 17 #[.slice A n c, .slice B m d] w fun e w' => e = .returned (.int .i64 (comB xs ys : Int)) ∧ Ext w w' := by
  subst hn
  subst hm
  have hla := ha.len
  have hlb := hb.len
  go_enter Try.func17, Try.ntmps17
  go_wp2
  go_loopw [5] (fun i wr => ∃ k : Nat, k ≤ xs.length ∧ k ≤ ys.length ∧ i = .int .i64 k ∧ Agree xs ys k ∧ Ext w wr) (fun i _ => xs.length - (intOf i).toNat)
  case atStart => exact ⟨0, Nat.zero_le _, Nat.zero_le _, rfl, Agree.zero _ _, Below.refl _ _⟩
  case round =>
    obtain ⟨k, hka, hkb, rfl, hag, hE⟩ := hrel
    by_cases hlt : k < xs.length
    · by_cases hlt2 : k < ys.length
      · obtain ⟨b1, o1, rfl, hc1⟩ := (ha.rd.ext hE) (by omega)
        obtain ⟨b2, o2, rfl, hc2⟩ := (hb.rd.ext hE) (by omega)
        have hd1 := hc1 k hlt
        have hd2 := hc2 k hlt2
        clear hc1 hc2
        by_cases he : at8 xs k = at8 ys k
        · have hag2 := hag.succ hlt hlt2 he
          rw [← he] at hd2
          clear he
          go_wp2
          go_quiet (fail)
          go_wp2
          go_roundw
          case rel => exact ⟨k + 1, by omega, by omega, by go_num, hag2, hE.trans (ext_drewN _ _)⟩
          case measure => simp [intOf]; omega
        · have hne : (at8 xs k == at8 ys k) = false := by simpa using he
          have hcm := Lib.hid (hag.com_ne hlt hlt2 he)
          clear he
          go_wp2
          go_quiet (fail)
          go_wp2
          go_ret
          exact ⟨ret_int (by rw [hcm.out]), hE.trans (ext_drewN _ _)⟩
      · obtain rfl : k = ys.length := by omega
        have hcm := Lib.hid (hag.com_end hka (.inr rfl))
        go_wp2
        go_quiet (fail)
        go_wp2
        go_ret
        exact ⟨ret_int (by rw [hcm.out]), hE.trans (ext_drewN _ _)⟩
    · obtain rfl : k = xs.length := by omega
      have hcm := Lib.hid (hag.com_end hka (.inl rfl))
      go_wp2
      go_quiet (fail)
      go_wp2
      go_ret
      exact ⟨ret_int (by rw [hcm.out]), hE.trans (ext_drewN _ _)⟩
end Go.Proofs.Ytijlaknfagpglaa
