/- The contract of coppicelaw12.fits. No condition but that what comes in lies in memory. -/
import Derived.Test.YtjjbckdiojleeaaCheck
namespace Go.Proofs.Ytjjbckdiojleeaa
set_option linter.unusedVariables false
open Go.RowKit Go.Proofs
theorem no_iff {P : Prop} (h : ¬ P) : false = true ↔ P := ⟨(fun e => by cases e), (fun e => absurd e h)⟩
set_option maxRecDepth 100000 in
set_option maxHeartbeats 4000000 in
theorem fits_any {v u : Value} {p q : Pg} {A : Option Addr} {c n : Nat} {sep : List UInt8} {w : World} (hv : PgV w v p) (hu : PgV w u q) (hs : Sl w A c sep) (hn : n = sep.length) :
    Calls Try.prog 30 #[v, u, .slice A n c] w fun e w' => ∃ z, e = .returned (.bool z) ∧ (z = true ↔ FitP p q sep) ∧ Ext w w' := by
  subst hn
  obtain ⟨iA, ic, dA, dc, rfl, hi, hd⟩ := hv.ex
  obtain ⟨jA, jc, eA, ec, rfl, hj, hcd⟩ := hu.ex
  have hil := hi.len
  have hjl := hj.len
  have hsl := hs.len
  have HP0 := Lib.hid (heap_alloc2_old w (.cells #[.int .i64 p.kind, .int .i64 p.level, .slice iA p.items.length ic, .slice dA p.data.length dc, .int .i64 p.next] 26) (.cells #[.int .i64 q.kind, .int .i64 q.level, .slice jA q.items.length jc, .slice eA q.data.length ec, .int .i64 q.next] 26))
  have HQ0 := Lib.hid (heap_alloc2_new w (.cells #[.int .i64 p.kind, .int .i64 p.level, .slice iA p.items.length ic, .slice dA p.data.length dc, .int .i64 p.next] 26) (.cells #[.int .i64 q.kind, .int .i64 q.level, .slice jA q.items.length jc, .slice eA q.data.length ec, .int .i64 q.next] 26))
  have hE0 := (ext_alloc w (.cells #[.int .i64 p.kind, .int .i64 p.level, .slice iA p.items.length ic, .slice dA p.data.length dc, .int .i64 p.next] 26)).trans (ext_alloc _ (.cells #[.int .i64 q.kind, .int .i64 q.level, .slice jA q.items.length jc, .slice eA q.data.length ec, .int .i64 q.next] 26))
  clear hd hcd
  go_enter Try.func30, Try.ntmps30
  go_wp2_with fail
  refine (check_any (hv.ext hE0)).mono ?_
  rintro e w1 ⟨n1, rfl, h1, hE1⟩
  have HP := Lib.hid (hE1.blk HP0.out)
  have HQ := Lib.hid (hE1.blk HQ0.out)
  have hE := hE0.trans hE1
  have H1 := Lib.hid h1
  clear hE0 hE1 HP0 HQ0 h1
  have p0 := cell_of_row w1 w.heap.size 0 _ _ _ HP.out
  have p1 := cell_of_row w1 w.heap.size 1 _ _ _ HP.out
  have p2 := cell_of_row w1 w.heap.size 2 _ _ _ HP.out
  have p3 := cell_of_row w1 w.heap.size 3 _ _ _ HP.out
  have p4 := cell_of_row w1 w.heap.size 4 _ _ _ HP.out
  simp only [List.getElem?_toArray, List.getElem?_cons_zero, List.getElem?_cons_succ] at p0 p1 p2 p3 p4
  have q0 := cell_of_row w1 (w.heap.size + 1) 0 _ _ _ HQ.out
  have q1 := cell_of_row w1 (w.heap.size + 1) 1 _ _ _ HQ.out
  have q2 := cell_of_row w1 (w.heap.size + 1) 2 _ _ _ HQ.out
  have q3 := cell_of_row w1 (w.heap.size + 1) 3 _ _ _ HQ.out
  have q4 := cell_of_row w1 (w.heap.size + 1) 4 _ _ _ HQ.out
  simp only [List.getElem?_toArray, List.getElem?_cons_zero, List.getElem?_cons_succ] at q0 q1 q2 q3 q4
  by_cases hok1 : OkP p
  rotate_left
  · have c1 : (n1 != 0) = true := by rw [bne_iff_ne]; exact fun h => hok1 (H1.out.1 h)
    have HN := Lib.hid (show ¬ FitP p q sep from fun h => hok1 h.okl)
    clear hok1
    go_wp2
    go_ret
    exact ⟨false, rfl, no_iff (HN.out), hE⟩
  have OK1 := Lib.hid hok1
  have c1 : (n1 != 0) = false := by rw [H1.out.2 hok1]; rfl
  clear hok1
  go_wp2_with fail
  clear p0 p1 p2 p3 p4 q0 q1 q2 q3 q4
  refine (check_any (hu.ext hE)).mono ?_
  rintro e w2 ⟨n2, rfl, h2, hE2⟩
  replace HP := Lib.hid (hE2.blk HP.out)
  replace HQ := Lib.hid (hE2.blk HQ.out)
  replace hE := hE.trans hE2
  have H2 := Lib.hid h2
  clear hE2 h2
  have p0 := cell_of_row w2 w.heap.size 0 _ _ _ HP.out
  have p1 := cell_of_row w2 w.heap.size 1 _ _ _ HP.out
  have p2 := cell_of_row w2 w.heap.size 2 _ _ _ HP.out
  have p3 := cell_of_row w2 w.heap.size 3 _ _ _ HP.out
  have p4 := cell_of_row w2 w.heap.size 4 _ _ _ HP.out
  simp only [List.getElem?_toArray, List.getElem?_cons_zero, List.getElem?_cons_succ] at p0 p1 p2 p3 p4
  have q0 := cell_of_row w2 (w.heap.size + 1) 0 _ _ _ HQ.out
  have q1 := cell_of_row w2 (w.heap.size + 1) 1 _ _ _ HQ.out
  have q2 := cell_of_row w2 (w.heap.size + 1) 2 _ _ _ HQ.out
  have q3 := cell_of_row w2 (w.heap.size + 1) 3 _ _ _ HQ.out
  have q4 := cell_of_row w2 (w.heap.size + 1) 4 _ _ _ HQ.out
  simp only [List.getElem?_toArray, List.getElem?_cons_zero, List.getElem?_cons_succ] at q0 q1 q2 q3 q4
  by_cases hok2 : OkP q
  rotate_left
  · have c2 : (n2 != 0) = true := by rw [bne_iff_ne]; exact fun h => hok2 (H2.out.1 h)
    have HN := Lib.hid (show ¬ FitP p q sep from fun h => hok2 h.okr)
    clear hok2
    go_wp2
    go_ret
    exact ⟨false, rfl, no_iff (HN.out), hE⟩
  have OK2 := Lib.hid hok2
  have c2 : (n2 != 0) = false := by rw [H2.out.2 hok2]; rfl
  clear hok2
  cases c3 : p.kind != q.kind
  rotate_left
  · have HN := Lib.hid (show ¬ FitP p q sep from fun h => by have := h.kind; simp [this] at c3)
    go_wp2
    go_ret
    exact ⟨false, rfl, no_iff (HN.out), hE⟩
  have C3 := Lib.hid c3
  cases c4 : p.level != q.level
  rotate_left
  · have HN := Lib.hid (show ¬ FitP p q sep from fun h => by have := h.level; simp [this] at c4)
    go_wp2
    go_ret
    exact ⟨false, rfl, no_iff (HN.out), hE⟩
  have C4 := Lib.hid c4
  cases c5 : p.kind == 3
  rotate_left
  · have HN := Lib.hid (show ¬ FitP p q sep from fun h => by have := h.meant; simp at c5; exact this c5)
    go_wp2
    go_ret
    exact ⟨false, rfl, no_iff (HN.out), hE⟩
  have hk3 : p.kind ≠ 3 := by simpa using c5
  have hkq : p.kind = q.kind := by simpa using C3.out
  have OL1 := OK1.out.okL hk3
  have OL2 := OK2.out.okL (hkq ▸ hk3)
  have m1 : 1 ≤ p.items.length := by have := OL1.min; split at this <;> omega
  have m2 : p.kind = 1 → 1 ≤ q.items.length := fun h => by have := OL2.min; rw [if_pos (by omega)] at this; exact this
  have m3 : p.kind ≠ 1 → 2 ≤ q.items.length := fun h => by have := OL2.min; rw [if_neg (by omega)] at this; exact this
  have M2 := Lib.hid m2
  have M3 := Lib.hid m3
  have HK3 := Lib.hid hk3
  have HKQ := Lib.hid hkq
  have i1 : (1 : Int) ≤ p.items.length := by omega
  clear OL1 OL2 m2 m3 hk3 hkq
  by_cases hl : 1 ≤ sep.length ∧ sep.length ≤ 24
  rotate_left
  · have HN := Lib.hid (show ¬ FitP p q sep from fun h => hl h.len)
    have hcs : (sep.length : Int) < 1 ∨ ((1 : Int) ≤ sep.length ∧ (24 : Int) < sep.length) := by omega
    clear hl
    rcases hcs with l1 | ⟨l1, l2⟩
    all_goals
      go_wp2
      go_ret
      exact ⟨false, rfl, no_iff (HN.out), hE⟩
  have HL := Lib.hid hl
  have l1 : (1 : Int) ≤ sep.length := by omega
  have l2 : (sep.length : Int) ≤ 24 := by omega
  clear hl
  obtain ⟨b, o, rfl, hcx⟩ := hi.rd (by omega)
  obtain ⟨x, hx⟩ : ∃ x, p.items[p.items.length - 1]? = some x := ⟨_, List.getElem?_eq_getElem (by omega)⟩
  obtain ⟨kA, kc, vA, vc, x0, _, _, _, xk, _⟩ := hcx _ x hx
  replace x0 := hE.cell x0
  have HX := Lib.hid (show p.items.getD (p.items.length - 1) It.zero = x by rw [List.getD_eq_getElem?_getD, hx]; rfl)
  have i2 : (p.items.length : Int) - 1 < p.items.length := by omega
  have hto : ((p.items.length : Int) - 1).toNat = p.items.length - 1 := by omega
  obtain ⟨cv, hcv⟩ : ∃ c, cmpB x.key sep = c := ⟨_, rfl⟩
  have HCV := Lib.hid hcv
  clear hcx hx hcv
  go_wp2_with fail
  clear p0 p1 p2 p3 p4 q0 q1 q2 q3 q4 x0 hto i2
  refine (compare_any (xk.ext hE) (hs.ext hE)).mono ?_
  rintro e w3 ⟨rfl, hE3⟩
  rw [HCV.out]
  replace HP := Lib.hid (hE3.blk HP.out)
  replace HQ := Lib.hid (hE3.blk HQ.out)
  replace hE := hE.trans hE3
  clear hE3
  have p0 := cell_of_row w3 w.heap.size 0 _ _ _ HP.out
  have p1 := cell_of_row w3 w.heap.size 1 _ _ _ HP.out
  have p2 := cell_of_row w3 w.heap.size 2 _ _ _ HP.out
  have p3 := cell_of_row w3 w.heap.size 3 _ _ _ HP.out
  have p4 := cell_of_row w3 w.heap.size 4 _ _ _ HP.out
  simp only [List.getElem?_toArray, List.getElem?_cons_zero, List.getElem?_cons_succ] at p0 p1 p2 p3 p4
  have q0 := cell_of_row w3 (w.heap.size + 1) 0 _ _ _ HQ.out
  have q1 := cell_of_row w3 (w.heap.size + 1) 1 _ _ _ HQ.out
  have q2 := cell_of_row w3 (w.heap.size + 1) 2 _ _ _ HQ.out
  have q3 := cell_of_row w3 (w.heap.size + 1) 3 _ _ _ HQ.out
  have q4 := cell_of_row w3 (w.heap.size + 1) 4 _ _ _ HQ.out
  simp only [List.getElem?_toArray, List.getElem?_cons_zero, List.getElem?_cons_succ] at q0 q1 q2 q3 q4
  by_cases hc : 0 ≤ cv
  · have HN := Lib.hid (show ¬ FitP p q sep from fun h => by have h5 := h.left; rw [HX.out] at h5; have h6 := h5.eq; rw [HCV.out] at h6; omega)
    go_wp2
    go_ret
    exact ⟨false, rfl, no_iff (HN.out), hE⟩
  have hc' : cv < 0 := by omega
  have HLF := Lib.hid (show LtB x.key sep from by unfold LtB; rw [HCV.out]; exact hc')
  clear hc
  by_cases hk1 : p.kind = 1
  · have c6 : (p.kind == 1) = true := by simpa using hk1
    have m2 := M2.out hk1
    have HK1 := Lib.hid hk1
    have j1 : (0 : Int) < q.items.length := by omega
    have j2 : 0 < q.items.length := by omega
    obtain ⟨b2, o2, rfl, hcx⟩ := hj.rd (by omega)
    obtain ⟨y, hy⟩ : ∃ y, q.items[0]? = some y := ⟨_, List.getElem?_eq_getElem (by omega)⟩
    obtain ⟨lA, lc, uA, uc, y0, _, _, _, yk, _⟩ := hcx 0 y hy
    rw [Nat.zero_mul, Nat.add_zero] at y0
    replace y0 := hE.cell y0
    have HY := Lib.hid (show q.items.getD 0 It.zero = y by rw [List.getD_eq_getElem?_getD, hy]; rfl)
    clear hk1 hcx hy m2
    go_wp2_with fail
    clear p0 p1 p2 p3 p4 q0 q1 q2 q3 q4 y0
    refine (compare_any (hs.ext hE) (yk.ext hE)).mono ?_
    rintro e w4 ⟨rfl, hE4⟩
    replace hE := hE.trans hE4
    clear hE4
    go_wp2
    go_ret
    refine ⟨_, rfl, ?_, hE⟩
    rw [decide_eq_true_eq, le_iff]
    constructor
    · intro h
      exact ⟨OK1.out, OK2.out, HKQ.out, by simpa using C4.out, HK3.out, HL.out, by rw [HX.out]; exact HLF.out, by rw [if_pos HK1.out, HY.out]; exact h⟩
    · intro h
      have := h.right
      rwa [if_pos HK1.out, HY.out] at this
  · have c6 : (p.kind == 1) = false := by simpa using hk1
    have m3 := M3.out hk1
    have HK1 := Lib.hid hk1
    have j1 : (1 : Int) < q.items.length := by omega
    have j2 : 1 < q.items.length := by omega
    obtain ⟨b2, o2, rfl, hcx⟩ := hj.rd (by omega)
    obtain ⟨y, hy⟩ : ∃ y, q.items[1]? = some y := ⟨_, List.getElem?_eq_getElem (by omega)⟩
    obtain ⟨lA, lc, uA, uc, y0, _, _, _, yk, _⟩ := hcx 1 y hy
    rw [Nat.one_mul] at y0
    replace y0 := hE.cell y0
    have HY := Lib.hid (show q.items.getD 1 It.zero = y by rw [List.getD_eq_getElem?_getD, hy]; rfl)
    clear hk1 hcx hy m3
    go_wp2_with fail
    clear p0 p1 p2 p3 p4 q0 q1 q2 q3 q4 y0
    refine (compare_any (hs.ext hE) (yk.ext hE)).mono ?_
    rintro e w4 ⟨rfl, hE4⟩
    replace hE := hE.trans hE4
    clear hE4
    go_wp2
    go_ret
    refine ⟨_, rfl, ?_, hE⟩
    rw [decide_eq_true_eq, lt_iff]
    constructor
    · intro h
      exact ⟨OK1.out, OK2.out, HKQ.out, by simpa using C4.out, HK3.out, HL.out, by rw [HX.out]; exact HLF.out, by rw [if_neg HK1.out, HY.out]; exact h⟩
    · intro h
      have := h.right
      rwa [if_neg HK1.out, HY.out] at this
end Go.Proofs.Ytjjbckdiojleeaa
