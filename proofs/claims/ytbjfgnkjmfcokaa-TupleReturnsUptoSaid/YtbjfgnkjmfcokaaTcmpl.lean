/- Layer 3: the order of two tuples, as the program and as the document have it. No condition but that the lists lie in memory. -/
import Derived.Test.YtbjfgnkjmfcokaaTlistw
namespace Go.Proofs.Ytbjfgnkjmfcokaa
open Go.RowKit Go.Proofs
set_option linter.unusedVariables false
/-- The order of two tuples. -/
def cmpL : List Vl → List Vl → Int
  | [], [] => 0
  | [], _ :: _ => -1
  | _ :: _, [] => 1
  | a :: l, b :: m => if cmpV a b = 0 then cmpL l m else cmpV a b
/-- The first k values are of one rank. -/
def Even (a b : List Vl) (k : Nat) : Prop := cmpL a b = cmpL (a.drop k) (b.drop k)
theorem Even.zero (a b : List Vl) : Even a b 0 := rfl
theorem Even.step {a b : List Vl} {k : Nat} {u v : Vl} (h : Even a b k) (ha : a[k]? = some u) (hb : b[k]? = some v) (hc : cmpV u v = 0) : Even a b (k + 1) := by
  obtain ⟨h1, e1⟩ := List.getElem?_eq_some_iff.1 ha
  obtain ⟨h2, e2⟩ := List.getElem?_eq_some_iff.1 hb
  unfold Even at *
  rw [h, List.drop_eq_getElem_cons h1, List.drop_eq_getElem_cons h2, e1, e2, cmpL, if_pos hc]
theorem Even.differ {a b : List Vl} {k : Nat} {u v : Vl} (h : Even a b k) (ha : a[k]? = some u) (hb : b[k]? = some v) (hc : ¬ cmpV u v = 0) : cmpL a b = cmpV u v := by
  obtain ⟨h1, e1⟩ := List.getElem?_eq_some_iff.1 ha
  obtain ⟨h2, e2⟩ := List.getElem?_eq_some_iff.1 hb
  unfold Even at *
  rw [h, List.drop_eq_getElem_cons h1, List.drop_eq_getElem_cons h2, e1, e2, cmpL, if_neg hc]
theorem Even.stop {a b : List Vl} {k : Nat} (h : Even a b k) (hk : k = a.length ∨ k = b.length) (ha : k ≤ a.length) (hb : k ≤ b.length) : cmpL a b = cmpI a.length b.length := by
  unfold Even at h
  rw [h]
  unfold cmpI
  by_cases h1 : a.length = k
  · rw [List.drop_eq_nil_of_le (by omega)]
    by_cases h2 : b.length = k
    · rw [List.drop_eq_nil_of_le (by omega), if_neg (by omega), if_neg (by omega)]; rfl
    · rw [List.drop_eq_getElem_cons (show k < b.length by omega), if_pos (by omega)]; rfl
  · rw [List.drop_eq_nil_of_le (show b.length ≤ k by omega), List.drop_eq_getElem_cons (show k < a.length by omega), if_neg (by omega), if_pos (by omega)]; rfl
section
variable {A B : Option Addr} {c d : Nat} {x y : List Vl} {w : World}
set_option maxHeartbeats 1000000 in
set_option maxRecDepth 20000 in
theorem dCompare_any (hx : DL w A c x) (hy : DL w B d y) :
    Calls Try.prog 17 #[.slice A x.length c, .slice B y.length d] w fun e w' => e = .returned (.int .i64 (cmpL x y)) ∧ Ext w w' := by
  have hlx := hx.len
  have hly := hy.len
  go_enter Try.func17, Try.ntmps17
  go_wp2
  go_loopw [5] (fun i wr => ∃ k : Nat, k ≤ x.length ∧ k ≤ y.length ∧ i = .int .i64 k ∧ Hid (Even x y k) ∧ Ext w wr) (fun i _ => x.length - (intOf i).toNat)
  case atStart => exact ⟨0, Nat.zero_le _, Nat.zero_le _, rfl, Lib.hid (Even.zero _ _), Below.refl _ _⟩
  case round =>
    obtain ⟨k, hk, hk2, rfl, HT, hE⟩ := hrel
    by_cases hlt : k < x.length
    · by_cases hlt2 : k < y.length
      · obtain ⟨u, hu⟩ : ∃ u, x[k]? = some u := ⟨_, List.getElem?_eq_getElem hlt⟩
        obtain ⟨v, hv⟩ : ∃ v, y[k]? = some v := ⟨_, List.getElem?_eq_getElem hlt2⟩
        have hou := hx.ok u (List.mem_of_getElem? hu)
        have hov := hy.ok v (List.mem_of_getElem? hv)
        obtain ⟨b, o, rfl, hcx⟩ := (hx.ext hE).dAt hu
        obtain ⟨b', o', rfl, hcy⟩ := (hy.ext hE).dAt hv
        have x0 := fun W (h : Ext wr W) => (hcx W h).1
        have x1 := fun W (h : Ext wr W) => (hcx W h).2.1
        have x2 := fun W (h : Ext wr W) => (hcx W h).2.2.1
        have x3 := fun W (h : Ext wr W) => (hcx W h).2.2.2.1
        have x4 := fun W (h : Ext wr W) => (hcx W h).2.2.2.2.1
        have x5 := fun W (h : Ext wr W) => (hcx W h).2.2.2.2.2.1
        have x6 := fun W (h : Ext wr W) => (hcx W h).2.2.2.2.2.2
        have y0 := fun W (h : Ext wr W) => (hcy W h).1
        have y1 := fun W (h : Ext wr W) => (hcy W h).2.1
        have y2 := fun W (h : Ext wr W) => (hcy W h).2.2.1
        have y3 := fun W (h : Ext wr W) => (hcy W h).2.2.2.1
        have y4 := fun W (h : Ext wr W) => (hcy W h).2.2.2.2.1
        have y5 := fun W (h : Ext wr W) => (hcy W h).2.2.2.2.2.1
        have y6 := fun W (h : Ext wr W) => (hcy W h).2.2.2.2.2.2
        have HU := Lib.hid hu
        have HV := Lib.hid hv
        clear hu hv hcx hcy
        go_wp2
        refine wp_region_rg Ext rel_ext (fun _ => True) [0, 1, 2, 3, 4, 5, 6, 7, 8, 9] (fun i => match i with
          | 8 => some fun _ z _ => z = .int .i64 (cmpV u v)
          | _ => none) (fun _ => none) (fun _ => false) (by kernel_rfl) (by kernel_rfl) (fun _ _ _ _ => trivial) trivial (fun W N hW _ hN => ?_)
        have hEW := hW
        repeat (first | (apply wpR_one; (case ho => (simp only [List.getElem?_toArray, List.getElem?_cons_succ, List.getElem?_cons_zero]; try exact rfl)); (case hw => rfl); (case hl => rfl); (case hsp => rfl); (case he => rfl); (case hv => (intro w' hw'; (try (have hw2 := Ext.trans hEW hw')); (try (have hw3 := Exc.trans hEW hw')); (try (have hw4 := Exk.trans hEW hw')); (try (have hw5 := Mrk.trans hEW hw')); go_simp; exact rfl)); (case hw0 => (first | exact Below.refl _ _ | exact Exc.of_ext (Below.refl _ _) | exact Exk.of_ext (Below.refl _ _) | exact Mrk.of_ext (Below.refl _ _))); simp only [Act.put, List.setIfInBounds_toArray, List.set_cons_succ, List.set_cons_zero]) | (apply wpR_early; (case ho => (simp only [List.getElem?_toArray, List.getElem?_cons_succ, List.getElem?_cons_zero]; try exact rfl)); (case hw => rfl); (case hl => rfl); (case hsp => rfl); (case he => rfl); (case hv => (intro w' hw'; (try have hw2 := Ext.trans hEW hw'); go_simp; exact rfl)); simp only [Act.put, List.setIfInBounds_toArray, List.set_cons_succ, List.set_cons_zero]) | (apply wpR_pass; (case ho => (simp only [List.getElem?_toArray, List.getElem?_cons_succ, List.getElem?_cons_zero]; try exact rfl)); (case hw => rfl); (case hl => rfl); simp only [Act.put, List.setIfInBounds_toArray, List.set_cons_succ, List.set_cons_zero]))
        refine wpR_new (by ((simp only [List.getElem?_toArray, List.getElem?_cons_succ, List.getElem?_cons_zero]; try exact rfl))) _ rfl rfl rfl (fun V v => Lasts.pure) (fun V V' h => rfl) (fun w' hw' hK => ?_) (fun z hz => ?_)
        · unfold opAt; go_simp; refine upAt_enter ?_
          refine (dvalues_any hou hov).mono ?_
          rintro e w2 ⟨rfl, hE2⟩
          exact ⟨_, rfl, hE2, rfl⟩
        obtain ⟨_, _, _, rfl⟩ := hz
        simp only [Act.put, List.setIfInBounds_toArray, List.set_cons_succ, List.set_cons_zero]
        repeat (first | (apply wpR_one; (case ho => (simp only [List.getElem?_toArray, List.getElem?_cons_succ, List.getElem?_cons_zero]; try exact rfl)); (case hw => rfl); (case hl => rfl); (case hsp => rfl); (case he => rfl); (case hv => (intro w' hw'; (try (have hw2 := Ext.trans hEW hw')); (try (have hw3 := Exc.trans hEW hw')); (try (have hw4 := Exk.trans hEW hw')); (try (have hw5 := Mrk.trans hEW hw')); go_simp; exact rfl)); (case hw0 => (first | exact Below.refl _ _ | exact Exc.of_ext (Below.refl _ _) | exact Exk.of_ext (Below.refl _ _) | exact Mrk.of_ext (Below.refl _ _))); simp only [Act.put, List.setIfInBounds_toArray, List.set_cons_succ, List.set_cons_zero]) | (apply wpR_early; (case ho => (simp only [List.getElem?_toArray, List.getElem?_cons_succ, List.getElem?_cons_zero]; try exact rfl)); (case hw => rfl); (case hl => rfl); (case hsp => rfl); (case he => rfl); (case hv => (intro w' hw'; (try have hw2 := Ext.trans hEW hw'); go_simp; exact rfl)); simp only [Act.put, List.setIfInBounds_toArray, List.set_cons_succ, List.set_cons_zero]) | (apply wpR_pass; (case ho => (simp only [List.getElem?_toArray, List.getElem?_cons_succ, List.getElem?_cons_zero]; try exact rfl)); (case hw => rfl); (case hl => rfl); simp only [Act.put, List.setIfInBounds_toArray, List.set_cons_succ, List.set_cons_zero]))
        apply wpR_nil
        apply hN
        intro w' hE' hK _
        clear hK hN x0 x1 x2 x3 x4 x5 x6 y0 y1 y2 y3 y4 y5 y6
        have hE2 := (hE.trans hEW).trans hE'
        by_cases hz : cmpV u v = 0
        · have HT2 := Lib.hid (HT.out.step HU.out HV.out hz)
          go_wp2
          go_roundw
          case rel => exact ⟨k + 1, by omega, by omega, by go_num, HT2, hE2⟩
          case measure => simp [intOf]; omega
        · have HN := Lib.hid (HT.out.differ HU.out HV.out hz)
          go_wp2
          go_ret
          exact ⟨ret_int HN.out.symm, hE2⟩
      · have HN := Lib.hid (HT.out.stop (.inr (by omega)) hk hk2)
        go_wp2_with (go_at_call 43; refine ints_any.mono ?_; rintro e w2 ⟨rfl, rfl⟩)
        go_ret
        exact ⟨ret_int HN.out.symm, hE⟩
    · have HN := Lib.hid (HT.out.stop (.inl (by omega)) hk hk2)
      go_wp2_with (go_at_call 43; refine ints_any.mono ?_; rintro e w2 ⟨rfl, rfl⟩)
      go_ret
      exact ⟨ret_int HN.out.symm, hE⟩
set_option maxHeartbeats 1000000 in
set_option maxRecDepth 20000 in
theorem tCompare_short (hx : PL w A c x) (hy : PL w B d y) (hlt0 : y.length < x.length) :
    Calls Try.prog 16 #[.slice A x.length c, .slice B y.length d] w fun e w' => e = .returned (.int .i64 (cmpL x y)) ∧ Ext w w' := by
  have hlx := hx.len
  have hly := hy.len
  go_enter Try.func16, Try.ntmps16
  go_wp2
  go_loopw [12] (fun i wr => ∃ k : Nat, k ≤ y.length ∧ i = .int .i64 k ∧ Hid (Even x y k) ∧ Ext w wr) (fun i _ => y.length - (intOf i).toNat)
  case atStart => exact ⟨0, Nat.zero_le _, rfl, Lib.hid (Even.zero _ _), Below.refl _ _⟩
  case round =>
    obtain ⟨k, hk, rfl, HT, hE⟩ := hrel
    by_cases hlt : k < y.length
    · have hlt2 : k < x.length := by omega
      obtain ⟨u, hu⟩ : ∃ u, x[k]? = some u := ⟨_, List.getElem?_eq_getElem (by omega)⟩
      obtain ⟨v, hv⟩ : ∃ v, y[k]? = some v := ⟨_, List.getElem?_eq_getElem (by omega)⟩
      have hou := hx.ok u (List.mem_of_getElem? hu)
      have hov := hy.ok v (List.mem_of_getElem? hv)
      obtain ⟨b, o, rfl, hcx⟩ := (hx.ext hE).pAt hu
      obtain ⟨b', o', rfl, hcy⟩ := (hy.ext hE).pAt hv
      have x0 := fun W (h : Ext wr W) => (hcx W h).1
      have x1 := fun W (h : Ext wr W) => (hcx W h).2.1
      have x2 := fun W (h : Ext wr W) => (hcx W h).2.2.1
      have x3 := fun W (h : Ext wr W) => (hcx W h).2.2.2.1
      have x4 := fun W (h : Ext wr W) => (hcx W h).2.2.2.2.1
      have x5 := fun W (h : Ext wr W) => (hcx W h).2.2.2.2.2
      have y0 := fun W (h : Ext wr W) => (hcy W h).1
      have y1 := fun W (h : Ext wr W) => (hcy W h).2.1
      have y2 := fun W (h : Ext wr W) => (hcy W h).2.2.1
      have y3 := fun W (h : Ext wr W) => (hcy W h).2.2.2.1
      have y4 := fun W (h : Ext wr W) => (hcy W h).2.2.2.2.1
      have y5 := fun W (h : Ext wr W) => (hcy W h).2.2.2.2.2
      have HU := Lib.hid hu
      have HV := Lib.hid hv
      clear hu hv hcx hcy
      go_wp2
      refine wp_region_rg Ext rel_ext (fun _ => True) [0, 1, 2, 3, 4, 5, 6, 7, 8, 9] (fun i => match i with
        | 8 => some fun _ z _ => z = .int .i64 (cmpV u v)
        | _ => none) (fun _ => none) (fun _ => false) (by kernel_rfl) (by kernel_rfl) (fun _ _ _ _ => trivial) trivial (fun W N hW _ hN => ?_)
      have hEW := hW
      repeat (first | (apply wpR_one; (case ho => (simp only [List.getElem?_toArray, List.getElem?_cons_succ, List.getElem?_cons_zero]; try exact rfl)); (case hw => rfl); (case hl => rfl); (case hsp => rfl); (case he => rfl); (case hv => (intro w' hw'; (try (have hw2 := Ext.trans hEW hw')); (try (have hw3 := Exc.trans hEW hw')); (try (have hw4 := Exk.trans hEW hw')); (try (have hw5 := Mrk.trans hEW hw')); go_simp; exact rfl)); (case hw0 => (first | exact Below.refl _ _ | exact Exc.of_ext (Below.refl _ _) | exact Exk.of_ext (Below.refl _ _) | exact Mrk.of_ext (Below.refl _ _))); simp only [Act.put, List.setIfInBounds_toArray, List.set_cons_succ, List.set_cons_zero]) | (apply wpR_early; (case ho => (simp only [List.getElem?_toArray, List.getElem?_cons_succ, List.getElem?_cons_zero]; try exact rfl)); (case hw => rfl); (case hl => rfl); (case hsp => rfl); (case he => rfl); (case hv => (intro w' hw'; (try have hw2 := Ext.trans hEW hw'); go_simp; exact rfl)); simp only [Act.put, List.setIfInBounds_toArray, List.set_cons_succ, List.set_cons_zero]) | (apply wpR_pass; (case ho => (simp only [List.getElem?_toArray, List.getElem?_cons_succ, List.getElem?_cons_zero]; try exact rfl)); (case hw => rfl); (case hl => rfl); simp only [Act.put, List.setIfInBounds_toArray, List.set_cons_succ, List.set_cons_zero]))
      refine wpR_new (by ((simp only [List.getElem?_toArray, List.getElem?_cons_succ, List.getElem?_cons_zero]; try exact rfl))) _ rfl rfl rfl (fun V v => Lasts.pure) (fun V V' h => rfl) (fun w' hw' hK => ?_) (fun z hz => ?_)
      · unfold opAt; go_simp; refine upAt_enter ?_
        refine (tcompare_any hou hov).mono ?_
        rintro e w2 ⟨rfl, hE2⟩
        exact ⟨_, rfl, hE2, rfl⟩
      obtain ⟨_, _, _, rfl⟩ := hz
      simp only [Act.put, List.setIfInBounds_toArray, List.set_cons_succ, List.set_cons_zero]
      repeat (first | (apply wpR_one; (case ho => (simp only [List.getElem?_toArray, List.getElem?_cons_succ, List.getElem?_cons_zero]; try exact rfl)); (case hw => rfl); (case hl => rfl); (case hsp => rfl); (case he => rfl); (case hv => (intro w' hw'; (try (have hw2 := Ext.trans hEW hw')); (try (have hw3 := Exc.trans hEW hw')); (try (have hw4 := Exk.trans hEW hw')); (try (have hw5 := Mrk.trans hEW hw')); go_simp; exact rfl)); (case hw0 => (first | exact Below.refl _ _ | exact Exc.of_ext (Below.refl _ _) | exact Exk.of_ext (Below.refl _ _) | exact Mrk.of_ext (Below.refl _ _))); simp only [Act.put, List.setIfInBounds_toArray, List.set_cons_succ, List.set_cons_zero]) | (apply wpR_early; (case ho => (simp only [List.getElem?_toArray, List.getElem?_cons_succ, List.getElem?_cons_zero]; try exact rfl)); (case hw => rfl); (case hl => rfl); (case hsp => rfl); (case he => rfl); (case hv => (intro w' hw'; (try have hw2 := Ext.trans hEW hw'); go_simp; exact rfl)); simp only [Act.put, List.setIfInBounds_toArray, List.set_cons_succ, List.set_cons_zero]) | (apply wpR_pass; (case ho => (simp only [List.getElem?_toArray, List.getElem?_cons_succ, List.getElem?_cons_zero]; try exact rfl)); (case hw => rfl); (case hl => rfl); simp only [Act.put, List.setIfInBounds_toArray, List.set_cons_succ, List.set_cons_zero]))
      apply wpR_nil
      apply hN
      intro w' hE' hK _
      clear hK hN x0 x1 x2 x3 x4 x5 y0 y1 y2 y3 y4 y5
      have hE2 := (hE.trans hEW).trans hE'
      by_cases hz : cmpV u v = 0
      · have HT2 := Lib.hid (HT.out.step HU.out HV.out hz)
        go_wp2
        go_roundw
        case rel => exact ⟨k + 1, by omega, by go_num, HT2, hE2⟩
        case measure => simp [intOf]; omega
      · have HN := Lib.hid (HT.out.differ HU.out HV.out hz)
        go_wp2
        go_ret
        exact ⟨ret_int HN.out.symm, hE2⟩
    · have HN := Lib.hid (HT.out.stop (.inr (by omega)) (by omega) (by omega))
      go_wp2_with (go_at_call 41; refine cmpInt_any.mono ?_; rintro e w2 ⟨rfl, rfl⟩)
      go_ret
      exact ⟨ret_int HN.out.symm, hE⟩
set_option maxHeartbeats 1000000 in
set_option maxRecDepth 20000 in
theorem tCompare_long (hx : PL w A c x) (hy : PL w B d y) (hlt0 : ¬ y.length < x.length) :
    Calls Try.prog 16 #[.slice A x.length c, .slice B y.length d] w fun e w' => e = .returned (.int .i64 (cmpL x y)) ∧ Ext w w' := by
  have hlx := hx.len
  have hly := hy.len
  go_enter Try.func16, Try.ntmps16
  go_wp2
  go_loopw [12] (fun i wr => ∃ k : Nat, k ≤ x.length ∧ i = .int .i64 k ∧ Hid (Even x y k) ∧ Ext w wr) (fun i _ => x.length - (intOf i).toNat)
  case atStart => exact ⟨0, Nat.zero_le _, rfl, Lib.hid (Even.zero _ _), Below.refl _ _⟩
  case round =>
    obtain ⟨k, hk, rfl, HT, hE⟩ := hrel
    by_cases hlt : k < x.length
    · have hlt2 : k < y.length := by omega
      obtain ⟨u, hu⟩ : ∃ u, x[k]? = some u := ⟨_, List.getElem?_eq_getElem (by omega)⟩
      obtain ⟨v, hv⟩ : ∃ v, y[k]? = some v := ⟨_, List.getElem?_eq_getElem (by omega)⟩
      have hou := hx.ok u (List.mem_of_getElem? hu)
      have hov := hy.ok v (List.mem_of_getElem? hv)
      obtain ⟨b, o, rfl, hcx⟩ := (hx.ext hE).pAt hu
      obtain ⟨b', o', rfl, hcy⟩ := (hy.ext hE).pAt hv
      have x0 := fun W (h : Ext wr W) => (hcx W h).1
      have x1 := fun W (h : Ext wr W) => (hcx W h).2.1
      have x2 := fun W (h : Ext wr W) => (hcx W h).2.2.1
      have x3 := fun W (h : Ext wr W) => (hcx W h).2.2.2.1
      have x4 := fun W (h : Ext wr W) => (hcx W h).2.2.2.2.1
      have x5 := fun W (h : Ext wr W) => (hcx W h).2.2.2.2.2
      have y0 := fun W (h : Ext wr W) => (hcy W h).1
      have y1 := fun W (h : Ext wr W) => (hcy W h).2.1
      have y2 := fun W (h : Ext wr W) => (hcy W h).2.2.1
      have y3 := fun W (h : Ext wr W) => (hcy W h).2.2.2.1
      have y4 := fun W (h : Ext wr W) => (hcy W h).2.2.2.2.1
      have y5 := fun W (h : Ext wr W) => (hcy W h).2.2.2.2.2
      have HU := Lib.hid hu
      have HV := Lib.hid hv
      clear hu hv hcx hcy
      go_wp2
      refine wp_region_rg Ext rel_ext (fun _ => True) [0, 1, 2, 3, 4, 5, 6, 7, 8, 9] (fun i => match i with
        | 8 => some fun _ z _ => z = .int .i64 (cmpV u v)
        | _ => none) (fun _ => none) (fun _ => false) (by kernel_rfl) (by kernel_rfl) (fun _ _ _ _ => trivial) trivial (fun W N hW _ hN => ?_)
      have hEW := hW
      repeat (first | (apply wpR_one; (case ho => (simp only [List.getElem?_toArray, List.getElem?_cons_succ, List.getElem?_cons_zero]; try exact rfl)); (case hw => rfl); (case hl => rfl); (case hsp => rfl); (case he => rfl); (case hv => (intro w' hw'; (try (have hw2 := Ext.trans hEW hw')); (try (have hw3 := Exc.trans hEW hw')); (try (have hw4 := Exk.trans hEW hw')); (try (have hw5 := Mrk.trans hEW hw')); go_simp; exact rfl)); (case hw0 => (first | exact Below.refl _ _ | exact Exc.of_ext (Below.refl _ _) | exact Exk.of_ext (Below.refl _ _) | exact Mrk.of_ext (Below.refl _ _))); simp only [Act.put, List.setIfInBounds_toArray, List.set_cons_succ, List.set_cons_zero]) | (apply wpR_early; (case ho => (simp only [List.getElem?_toArray, List.getElem?_cons_succ, List.getElem?_cons_zero]; try exact rfl)); (case hw => rfl); (case hl => rfl); (case hsp => rfl); (case he => rfl); (case hv => (intro w' hw'; (try have hw2 := Ext.trans hEW hw'); go_simp; exact rfl)); simp only [Act.put, List.setIfInBounds_toArray, List.set_cons_succ, List.set_cons_zero]) | (apply wpR_pass; (case ho => (simp only [List.getElem?_toArray, List.getElem?_cons_succ, List.getElem?_cons_zero]; try exact rfl)); (case hw => rfl); (case hl => rfl); simp only [Act.put, List.setIfInBounds_toArray, List.set_cons_succ, List.set_cons_zero]))
      refine wpR_new (by ((simp only [List.getElem?_toArray, List.getElem?_cons_succ, List.getElem?_cons_zero]; try exact rfl))) _ rfl rfl rfl (fun V v => Lasts.pure) (fun V V' h => rfl) (fun w' hw' hK => ?_) (fun z hz => ?_)
      · unfold opAt; go_simp; refine upAt_enter ?_
        refine (tcompare_any hou hov).mono ?_
        rintro e w2 ⟨rfl, hE2⟩
        exact ⟨_, rfl, hE2, rfl⟩
      obtain ⟨_, _, _, rfl⟩ := hz
      simp only [Act.put, List.setIfInBounds_toArray, List.set_cons_succ, List.set_cons_zero]
      repeat (first | (apply wpR_one; (case ho => (simp only [List.getElem?_toArray, List.getElem?_cons_succ, List.getElem?_cons_zero]; try exact rfl)); (case hw => rfl); (case hl => rfl); (case hsp => rfl); (case he => rfl); (case hv => (intro w' hw'; (try (have hw2 := Ext.trans hEW hw')); (try (have hw3 := Exc.trans hEW hw')); (try (have hw4 := Exk.trans hEW hw')); (try (have hw5 := Mrk.trans hEW hw')); go_simp; exact rfl)); (case hw0 => (first | exact Below.refl _ _ | exact Exc.of_ext (Below.refl _ _) | exact Exk.of_ext (Below.refl _ _) | exact Mrk.of_ext (Below.refl _ _))); simp only [Act.put, List.setIfInBounds_toArray, List.set_cons_succ, List.set_cons_zero]) | (apply wpR_early; (case ho => (simp only [List.getElem?_toArray, List.getElem?_cons_succ, List.getElem?_cons_zero]; try exact rfl)); (case hw => rfl); (case hl => rfl); (case hsp => rfl); (case he => rfl); (case hv => (intro w' hw'; (try have hw2 := Ext.trans hEW hw'); go_simp; exact rfl)); simp only [Act.put, List.setIfInBounds_toArray, List.set_cons_succ, List.set_cons_zero]) | (apply wpR_pass; (case ho => (simp only [List.getElem?_toArray, List.getElem?_cons_succ, List.getElem?_cons_zero]; try exact rfl)); (case hw => rfl); (case hl => rfl); simp only [Act.put, List.setIfInBounds_toArray, List.set_cons_succ, List.set_cons_zero]))
      apply wpR_nil
      apply hN
      intro w' hE' hK _
      clear hK hN x0 x1 x2 x3 x4 x5 y0 y1 y2 y3 y4 y5
      have hE2 := (hE.trans hEW).trans hE'
      by_cases hz : cmpV u v = 0
      · have HT2 := Lib.hid (HT.out.step HU.out HV.out hz)
        go_wp2
        go_roundw
        case rel => exact ⟨k + 1, by omega, by go_num, HT2, hE2⟩
        case measure => simp [intOf]; omega
      · have HN := Lib.hid (HT.out.differ HU.out HV.out hz)
        go_wp2
        go_ret
        exact ⟨ret_int HN.out.symm, hE2⟩
    · have HN := Lib.hid (HT.out.stop (.inl (by omega)) (by omega) (by omega))
      go_wp2_with (go_at_call 41; refine cmpInt_any.mono ?_; rintro e w2 ⟨rfl, rfl⟩)
      go_ret
      exact ⟨ret_int HN.out.symm, hE⟩
theorem tCompare_any (hx : PL w A c x) (hy : PL w B d y) :
    Calls Try.prog 16 #[.slice A x.length c, .slice B y.length d] w fun e w' => e = .returned (.int .i64 (cmpL x y)) ∧ Ext w w' := by
  by_cases h : y.length < x.length
  · exact tCompare_short hx hy h
  · exact tCompare_long hx hy h
end
end Go.Proofs.Ytbjfgnkjmfcokaa
