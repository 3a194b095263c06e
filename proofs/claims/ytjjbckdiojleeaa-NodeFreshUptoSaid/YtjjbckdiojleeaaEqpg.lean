/- Contracts of EqItem and EqPage. No condition but that what comes in lies in memory. -/
import Derived.Test.YtjjbckdiojleeaaPage
import Derived.Test.YtjjbckdiojleeaaRefa
import Derived.Test.YtjjbckdiojleeaaMildg
namespace Go.Proofs.Ytjjbckdiojleeaa
set_option linter.unusedVariables false
open Go.RowKit Go.Proofs
def eqIt (x y : It) : Bool := decide (x = y)
theorem eqIt_mk (x y : It) : eqIt x y = (x.ch == y.ch && (x.sz == y.sz && (eqB x.key y.key && eqB x.val y.val))) := by
  unfold eqIt eqB
  obtain ⟨k, v, c, s⟩ := x
  obtain ⟨k', v', c', s'⟩ := y
  rw [Bool.eq_iff_iff]
  simp only [It.mk.injEq, decide_eq_true_eq, Bool.and_eq_true, beq_iff_eq]
  constructor
  · rintro ⟨h1, h2, h3, h4⟩; exact ⟨h3, h4, h1, h2⟩
  · rintro ⟨h1, h2, h3, h4⟩; exact ⟨h3, h4, h1, h2⟩
set_option maxHeartbeats 1000000 in
theorem eqItem_any {kA vA lA uA : Option Addr} {kc vc lc uc kn vn ln un : Nat} {x y : It} {ch sz ch' sz' : Int} {w : World} (hk : Sl w kA kc x.key) (hv : Sl w vA vc x.val) (hl : Sl w lA lc y.key) (hu : Sl w uA uc y.val)
    (e1 : kn = x.key.length) (e2 : vn = x.val.length) (e3 : ln = y.key.length) (e4 : un = y.val.length) (e5 : ch = x.ch) (e6 : sz = x.sz) (e7 : ch' = y.ch) (e8 : sz' = y.sz) :
    Calls Try.prog 39 #[.agg #[.slice kA kn kc, .slice vA vn vc, .int .i64 ch, .int .i64 sz], .agg #[.slice lA ln lc, .slice uA un uc, .int .i64 ch', .int .i64 sz']] w fun e w' => e = .returned (.bool (eqIt x y)) ∧ Ext w w' := by
  have hq := eqIt_mk x y
  subst e1 e2 e3 e4 e5 e6 e7 e8
  by_cases hc : x.ch = y.ch
  · by_cases hs : x.sz = y.sz
    · have c1 : (x.ch == y.ch) = true := by simpa using hc
      have c2 : (x.sz == y.sz) = true := by simpa using hs
      rw [c1, c2, Bool.true_and, Bool.true_and] at hq
      have HQ := Lib.hid hq
      clear hq hc hs
      obtain ⟨p, hp⟩ : ∃ p, eqB x.key y.key = p := ⟨_, rfl⟩
      have HP := Lib.hid hp
      cases p
      · clear hp
        go_enter Try.func39, Try.ntmps39
        go_wp2_with fail
        refine (eqBytes_any (hk.ext ((ext_alloc _ _).trans (ext_alloc _ _))) (hl.ext ((ext_alloc _ _).trans (ext_alloc _ _)))).mono ?_
        rintro e w1 ⟨rfl, hE⟩
        rw [HP.out]
        go_wp2
        go_ret
        exact ⟨ret_bool (by rw [HQ.out, HP.out]; rfl), ((ext_alloc _ _).trans (ext_alloc _ _)).trans hE⟩
      · clear hp
        go_enter Try.func39, Try.ntmps39
        go_wp2_with fail
        refine (eqBytes_any (hk.ext ((ext_alloc _ _).trans (ext_alloc _ _))) (hl.ext ((ext_alloc _ _).trans (ext_alloc _ _)))).mono ?_
        rintro e w1 ⟨rfl, hE⟩
        rw [HP.out]
        have hE1 := ((ext_alloc w (.cells #[.slice kA x.key.length kc, .slice vA x.val.length vc, .int .i64 x.ch, .int .i64 x.sz] 51)).trans (ext_alloc _ (.cells #[.slice lA y.key.length lc, .slice uA y.val.length uc, .int .i64 y.ch, .int .i64 y.sz] 51))).trans hE
        have b1 := hE.blk (heap_alloc2_old w (.cells #[.slice kA x.key.length kc, .slice vA x.val.length vc, .int .i64 x.ch, .int .i64 x.sz] 51) (.cells #[.slice lA y.key.length lc, .slice uA y.val.length uc, .int .i64 y.ch, .int .i64 y.sz] 51))
        have b2 := hE.blk (heap_alloc2_new w (.cells #[.slice kA x.key.length kc, .slice vA x.val.length vc, .int .i64 x.ch, .int .i64 x.sz] 51) (.cells #[.slice lA y.key.length lc, .slice uA y.val.length uc, .int .i64 y.ch, .int .i64 y.sz] 51))
        have d1 := cell_of_row w1 w.heap.size 1 _ _ _ b1
        have d2 := cell_of_row w1 (w.heap.size + 1) 1 _ _ _ b2
        simp at d1 d2
        clear b1 b2 hE
        go_wp2_with fail
        refine (eqBytes_any (hv.ext hE1) (hu.ext hE1)).mono ?_
        rintro e w2 ⟨rfl, hE2⟩
        go_wp2
        go_ret
        exact ⟨ret_bool (by rw [HQ.out, HP.out]; rfl), hE1.trans hE2⟩
    · have c1 : (x.ch == y.ch) = true := by simpa using hc
      have c2 : (x.sz == y.sz) = false := by simpa using hs
      rw [c1, c2, Bool.true_and, Bool.false_and] at hq
      have HQ := Lib.hid hq
      clear hq hc hs
      go_enter Try.func39, Try.ntmps39
      go_wp2
      go_ret
      exact ⟨ret_bool (by rw [HQ.out]), (ext_alloc _ _).trans (ext_alloc _ _)⟩
  · have c1 : (x.ch == y.ch) = false := by simpa using hc
    rw [c1, Bool.false_and] at hq
    have HQ := Lib.hid hq
    clear hq hc
    go_enter Try.func39, Try.ntmps39
    go_wp2
    go_ret
    exact ⟨ret_bool (by rw [HQ.out]), (ext_alloc _ _).trans (ext_alloc _ _)⟩
def eqPg (p q : Pg) : Bool := decide (p = q)
theorem take_eq_succ {α : Type} {l m : List α} {k : Nat} (h : l.take k = m.take k) {x y : α} (hx : l[k]? = some x) (hy : m[k]? = some y) (e : x = y) : l.take (k + 1) = m.take (k + 1) := by
  rw [List.take_add_one, List.take_add_one, h, hx, hy, e]
theorem eqPg_items {p q : Pg} (h1 : p.kind = q.kind) (h2 : p.level = q.level) (h3 : p.next = q.next) (h4 : p.data = q.data) : eqPg p q = decide (p.items = q.items) := by
  unfold eqPg
  obtain ⟨a, b, c, d, e⟩ := p
  obtain ⟨a', b', c', d', e'⟩ := q
  simp only at h1 h2 h3 h4
  subst h1 h2 h3 h4
  rw [Bool.eq_iff_iff]
  simp
set_option maxHeartbeats 2000000 in
theorem eqPage_any {v u : Value} {p q : Pg} {w : World} (hv : PgV w v p) (hu : PgV w u q) :
    Calls Try.prog 24 #[v, u] w fun e w' => e = .returned (.bool (eqPg p q)) ∧ Ext w w' := by
  obtain ⟨iA, ic, dA, dc, rfl, hi, hd⟩ := hv.ex
  obtain ⟨jA, jc, cA, cc, rfl, hj, hcd⟩ := hu.ex
  clear hv hu
  have hil := hi.len
  have hjl := hj.len
  by_cases h1 : p.kind = q.kind
  rotate_left
  · have HQ := Lib.hid (show eqPg p q = false by simp [eqPg]; rintro rfl; exact h1 rfl)
    have c1 : (p.kind != q.kind) = true := by simpa using h1
    clear h1
    go_enter Try.func24, Try.ntmps24
    go_wp2
    go_ret
    exact ⟨ret_bool (by rw [HQ.out]), (ext_alloc _ _).trans (ext_alloc _ _)⟩
  have c1 : (p.kind != q.kind) = false := by simpa using h1
  by_cases h2 : p.level = q.level
  rotate_left
  · have HQ := Lib.hid (show eqPg p q = false by simp [eqPg]; rintro rfl; exact h2 rfl)
    have c2 : (p.level != q.level) = true := by simpa using h2
    clear h2 h1
    go_enter Try.func24, Try.ntmps24
    go_wp2
    go_ret
    exact ⟨ret_bool (by rw [HQ.out]), (ext_alloc _ _).trans (ext_alloc _ _)⟩
  have c2 : (p.level != q.level) = false := by simpa using h2
  by_cases h3 : p.next = q.next
  rotate_left
  · have HQ := Lib.hid (show eqPg p q = false by simp [eqPg]; rintro rfl; exact h3 rfl)
    have c3 : (p.next != q.next) = true := by simpa using h3
    clear h3 h2 h1
    go_enter Try.func24, Try.ntmps24
    go_wp2
    go_ret
    exact ⟨ret_bool (by rw [HQ.out]), (ext_alloc _ _).trans (ext_alloc _ _)⟩
  have c3 : (p.next != q.next) = false := by simpa using h3
  by_cases h5 : p.items.length = q.items.length
  rotate_left
  · have HQ := Lib.hid (show eqPg p q = false by simp [eqPg]; rintro rfl; exact h5 rfl)
    have c5 : ((p.items.length : Int) != (q.items.length : Int)) = true := by simpa using (by omega : ¬ (p.items.length : Int) = q.items.length)
    clear h5 h3 h2 h1
    go_enter Try.func24, Try.ntmps24
    go_wp2
    go_ret
    exact ⟨ret_bool (by rw [HQ.out]), (ext_alloc _ _).trans (ext_alloc _ _)⟩
  have c5 : ((p.items.length : Int) != (q.items.length : Int)) = false := by simp [h5]
  have c6 : (p.items.length == q.items.length) = true := by simpa using h5
  have H5 := Lib.hid h5
  obtain ⟨z, hz⟩ : ∃ z, eqB p.data q.data = z := ⟨_, rfl⟩
  have HZ := Lib.hid hz
  have H1 := Lib.hid h1
  have H2 := Lib.hid h2
  have H3 := Lib.hid h3
  clear hz h1 h2 h3 h5
  cases z
  · go_enter Try.func24, Try.ntmps24
    go_wp2_with fail
    refine (eqBytes_any (hd.ext ((ext_alloc _ _).trans (ext_alloc _ _))) (hcd.ext ((ext_alloc _ _).trans (ext_alloc _ _)))).mono ?_
    rintro e w1 ⟨rfl, hE⟩
    rw [HZ.out]
    go_wp2
    go_ret
    exact ⟨ret_bool (by
      have := HZ.out
      unfold eqB at this
      simp only [decide_eq_false_iff_not] at this
      symm
      simp only [eqPg, decide_eq_false_iff_not]
      rintro rfl
      exact this rfl), ((ext_alloc _ _).trans (ext_alloc _ _)).trans hE⟩
  · have HD : Hid (p.data = q.data) := by
      have := HZ.out
      unfold eqB at this
      exact Lib.hid (of_decide_eq_true this)
    go_enter Try.func24, Try.ntmps24
    go_wp2_with fail
    refine (eqBytes_any (hd.ext ((ext_alloc _ _).trans (ext_alloc _ _))) (hcd.ext ((ext_alloc _ _).trans (ext_alloc _ _)))).mono ?_
    rintro e w1 ⟨rfl, hE⟩
    rw [HZ.out]
    have b1 := hE.blk (heap_alloc2_old w (.cells #[.int .i64 p.kind, .int .i64 p.level, .slice iA p.items.length ic, .slice dA p.data.length dc, .int .i64 p.next] 26) (.cells #[.int .i64 q.kind, .int .i64 q.level, .slice jA q.items.length jc, .slice cA q.data.length cc, .int .i64 q.next] 26))
    have b2 := hE.blk (heap_alloc2_new w (.cells #[.int .i64 p.kind, .int .i64 p.level, .slice iA p.items.length ic, .slice dA p.data.length dc, .int .i64 p.next] 26) (.cells #[.int .i64 q.kind, .int .i64 q.level, .slice jA q.items.length jc, .slice cA q.data.length cc, .int .i64 q.next] 26))
    have hE1 := ((ext_alloc w (.cells #[.int .i64 p.kind, .int .i64 p.level, .slice iA p.items.length ic, .slice dA p.data.length dc, .int .i64 p.next] 26)).trans (ext_alloc _ (.cells #[.int .i64 q.kind, .int .i64 q.level, .slice jA q.items.length jc, .slice cA q.data.length cc, .int .i64 q.next] 26))).trans hE
    have ea : ∀ w', Ext w1 w' → w'.cell? ⟨w.heap.size, 2, none⟩ = some (.slice iA p.items.length ic) := fun w' h => cell_of_row _ _ _ _ _ _ (h.blk b1)
    have eb : ∀ w', Ext w1 w' → w'.cell? ⟨w.heap.size + 1, 2, none⟩ = some (.slice jA q.items.length jc) := fun w' h => cell_of_row _ _ _ _ _ _ (h.blk b2)
    clear hE b1 b2
    have hw1 : Ext w1 w1 := Below.refl _ _
    go_wp2
    go_loopw [5] (fun i wr => ∃ k : Nat, k ≤ p.items.length ∧ i = .int .i64 k ∧ p.items.take k = q.items.take k ∧ Ext w1 wr) (fun i _ => p.items.length - (intOf i).toNat)
    case atStart => exact ⟨0, Nat.zero_le _, rfl, rfl, Below.refl _ _⟩
    case round =>
      obtain ⟨k, hk, rfl, htk, hEr⟩ := hrel
      have HT := Lib.hid htk
      clear htk hw1
      by_cases hlt : k < p.items.length
      · have hlt2 : k < q.items.length := by have := H5.out; omega
        obtain ⟨x, hx⟩ : ∃ x, p.items[k]? = some x := ⟨_, List.getElem?_eq_getElem hlt⟩
        obtain ⟨y, hy⟩ : ∃ y, q.items[k]? = some y := ⟨_, List.getElem?_eq_getElem hlt2⟩
        obtain ⟨b, o, rfl, hcx⟩ := hi.rd (by omega)
        obtain ⟨b', o', rfl, hcy⟩ := hj.rd (by omega)
        obtain ⟨kA, kc, vA, vc, x0, x1, x2, x3, xk, xv⟩ := (hcx k x hx).ext hE1
        obtain ⟨lA, lc, uA, uc, y0, y1, y2, y3, yk, yv⟩ := (hcy k y hy).ext hE1
        have HX := Lib.hid hx
        have HY := Lib.hid hy
        clear hx hy
        obtain ⟨z, hz⟩ : ∃ z, eqIt x y = z := ⟨_, rfl⟩
        have HZ2 := Lib.hid hz
        clear hz
        have ex0 : ∀ w', Ext w1 w' → _ := fun w' h => h.cell x0
        have ex1 : ∀ w', Ext w1 w' → _ := fun w' h => h.cell x1
        have ex2 : ∀ w', Ext w1 w' → _ := fun w' h => h.cell x2
        have ex3 : ∀ w', Ext w1 w' → _ := fun w' h => h.cell x3
        have ey0 : ∀ w', Ext w1 w' → _ := fun w' h => h.cell y0
        have ey1 : ∀ w', Ext w1 w' → _ := fun w' h => h.cell y1
        have ey2 : ∀ w', Ext w1 w' → _ := fun w' h => h.cell y2
        have ey3 : ∀ w', Ext w1 w' → _ := fun w' h => h.cell y3
        clear x0 x1 x2 x3 y0 y1 y2 y3
        go_wp2
        refine wp_region_rg Ext rel_ext (fun _ => True) [0, 1, 2, 3, 4, 5, 6, 7, 8, 9, 10, 11] (fun i => match i with
          | 10 => some fun _ v _ => v = .bool z
          | _ => none) (fun _ => none) (fun _ => false) (by kernel_rfl) (by kernel_rfl) (fun _ _ _ _ => trivial) trivial (fun W N hW _ hN => ?_)
        have hEW := hEr.trans hW
        repeat (first | (apply wpR_one; (case ho => (simp only [List.getElem?_toArray, List.getElem?_cons_succ, List.getElem?_cons_zero]; try exact rfl)); (case hw => rfl); (case hl => rfl); (case hsp => rfl); (case he => rfl); (case hv => (intro w' hw'; (try (have hw2 := Ext.trans hEW hw')); (try (have hw3 := Exc.trans hEW hw')); (try (have hw4 := Exk.trans hEW hw')); (try (have hw5 := Mrk.trans hEW hw')); go_simp; exact rfl)); (case hw0 => (first | exact Below.refl _ _ | exact Exc.of_ext (Below.refl _ _) | exact Exk.of_ext (Below.refl _ _) | exact Mrk.of_ext (Below.refl _ _))); simp only [Act.put, List.setIfInBounds_toArray, List.set_cons_succ, List.set_cons_zero]) | (apply wpR_early; (case ho => (simp only [List.getElem?_toArray, List.getElem?_cons_succ, List.getElem?_cons_zero]; try exact rfl)); (case hw => rfl); (case hl => rfl); (case hsp => rfl); (case he => rfl); (case hv => (intro w' hw'; (try have hw2 := Ext.trans hEW hw'); go_simp; exact rfl)); simp only [Act.put, List.setIfInBounds_toArray, List.set_cons_succ, List.set_cons_zero]) | (apply wpR_pass; (case ho => (simp only [List.getElem?_toArray, List.getElem?_cons_succ, List.getElem?_cons_zero]; try exact rfl)); (case hw => rfl); (case hl => rfl); simp only [Act.put, List.setIfInBounds_toArray, List.set_cons_succ, List.set_cons_zero]))
        refine wpR_new (by ((simp only [List.getElem?_toArray, List.getElem?_cons_succ, List.getElem?_cons_zero]; try exact rfl))) _ rfl rfl rfl (fun V v => Lasts.pure) (fun V V' h => rfl) (fun w' hw' hK => ?_) (fun v hv => ?_)
        · unfold opAt; go_simp; refine upAt_enter ?_
          refine (eqItem_any (xk.ext (hEW.trans hw')) (xv.ext (hEW.trans hw')) (yk.ext (hEW.trans hw')) (yv.ext (hEW.trans hw')) rfl rfl rfl rfl rfl rfl rfl rfl).mono ?_
          rintro e w2 ⟨rfl, hE2⟩
          exact ⟨_, rfl, hE2, by rw [HZ2.out]⟩
        obtain ⟨_, _, _, rfl⟩ := hv
        simp only [Act.put, List.setIfInBounds_toArray, List.set_cons_succ, List.set_cons_zero]
        repeat (first | (apply wpR_one; (case ho => (simp only [List.getElem?_toArray, List.getElem?_cons_succ, List.getElem?_cons_zero]; try exact rfl)); (case hw => rfl); (case hl => rfl); (case hsp => rfl); (case he => rfl); (case hv => (intro w' hw'; (try (have hw2 := Ext.trans hEW hw')); (try (have hw3 := Exc.trans hEW hw')); (try (have hw4 := Exk.trans hEW hw')); (try (have hw5 := Mrk.trans hEW hw')); go_simp; exact rfl)); (case hw0 => (first | exact Below.refl _ _ | exact Exc.of_ext (Below.refl _ _) | exact Exk.of_ext (Below.refl _ _) | exact Mrk.of_ext (Below.refl _ _))); simp only [Act.put, List.setIfInBounds_toArray, List.set_cons_succ, List.set_cons_zero]) | (apply wpR_early; (case ho => (simp only [List.getElem?_toArray, List.getElem?_cons_succ, List.getElem?_cons_zero]; try exact rfl)); (case hw => rfl); (case hl => rfl); (case hsp => rfl); (case he => rfl); (case hv => (intro w' hw'; (try have hw2 := Ext.trans hEW hw'); go_simp; exact rfl)); simp only [Act.put, List.setIfInBounds_toArray, List.set_cons_succ, List.set_cons_zero]) | (apply wpR_pass; (case ho => (simp only [List.getElem?_toArray, List.getElem?_cons_succ, List.getElem?_cons_zero]; try exact rfl)); (case hw => rfl); (case hl => rfl); simp only [Act.put, List.setIfInBounds_toArray, List.set_cons_succ, List.set_cons_zero]))
        apply wpR_nil
        apply hN
        intro w' hE' hK _
        clear hK hN
        have hE2 := hEW.trans hE'
        have HQ := Lib.hid (eqPg_items H1.out H2.out H3.out HD.out)
        cases z
        · go_wp2
          go_ret
          refine ⟨ret_bool ?_, hE1.trans hE2⟩
          rw [HQ.out]
          symm
          simp only [decide_eq_false_iff_not]
          intro e
          have hz := HZ2.out
          unfold eqIt at hz
          simp only [decide_eq_false_iff_not] at hz
          have h1 := HX.out
          rw [e, HY.out] at h1
          injection h1 with h1
          exact hz h1.symm
        · have HT2 := Lib.hid (take_eq_succ HT.out HX.out HY.out (by have hz := HZ2.out; unfold eqIt at hz; exact of_decide_eq_true hz))
          go_wp2
          go_roundw
          case rel => exact ⟨k + 1, by omega, by go_num, HT2.out, hE2⟩
          case measure => simp [intOf]; omega
      · obtain rfl : k = p.items.length := by omega
        have HQ := Lib.hid (eqPg_items H1.out H2.out H3.out HD.out)
        go_wp2
        go_ret
        refine ⟨ret_bool ?_, hE1.trans hEr⟩
        rw [HQ.out]
        symm
        have h1 := HT.out
        rw [List.take_length, H5.out, List.take_length] at h1
        simpa using h1
end Go.Proofs.Ytjjbckdiojleeaa
