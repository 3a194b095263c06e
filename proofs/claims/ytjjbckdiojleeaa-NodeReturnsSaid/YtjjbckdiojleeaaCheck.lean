/- The contract of coppiceref07.Check. No condition but that what comes in lies in memory. -/
import Derived.Test.YtjjbckdiojleeaaChk
namespace Go.Proofs.Ytjjbckdiojleeaa
set_option linter.unusedVariables false
open Go.RowKit Go.Proofs
theorem chIt_at {kind : Int} {l : List It} {k : Nat} {x : It} (h : chItB kind l k = true) (hx : l[k]? = some x) : chKeyB kind k x = true ∧ chOrdB l k x = true ∧ chValB kind x = true ∧ chChB kind x = true := by
  unfold chItB at h
  rw [List.getD_eq_getElem?_getD, hx, Option.getD_some] at h
  simpa [Bool.and_eq_true] using h
theorem chIt_of {kind : Int} {l : List It} {k : Nat} {x : It} (hx : l[k]? = some x) (h1 : chKeyB kind k x = true) (h2 : chOrdB l k x = true) (h3 : chValB kind x = true) (h4 : chChB kind x = true) : chItB kind l k = true := by
  unfold chItB
  rw [List.getD_eq_getElem?_getD, hx, Option.getD_some, h1, h2, h3, h4]
  rfl
theorem allIt_succ {kind : Int} {l : List It} {k : Nat} (h : AllIt kind l k) (hk : chItB kind l k = true) : AllIt kind l (k + 1) := fun i hi => by
  by_cases e : i = k
  · rw [e]; exact hk
  · exact h i (by omega)
theorem notOk {p : Pg} {k : Nat} {x : It} (hx : p.items[k]? = some x) (h : ¬ (chKeyB p.kind k x = true ∧ chOrdB p.items k x = true ∧ chValB p.kind x = true ∧ chChB p.kind x = true)) : ¬ OkP p := fun ok =>
  h (chIt_at (ok.each k (List.getElem?_eq_some_iff.1 hx).1) hx)
theorem notOk_form {p : Pg} (h : chFormB p = false) : ¬ OkP p := fun ok => by rw [ok.form] at h; cases h
theorem zero_iff {n : Int} {P : Prop} (hn : n ≠ 0) (hP : ¬ P) : n = 0 ↔ P := ⟨fun h => absurd h hn, fun h => absurd h hP⟩
set_option maxRecDepth 100000 in
set_option maxHeartbeats 4000000 in
theorem check_any {v : Value} {p : Pg} {w : World} (hv : PgV w v p) :
    Calls Try.prog 29 #[v] w fun e w' => ∃ n : Int, e = .returned (.int .i64 n) ∧ (n = 0 ↔ OkP p) ∧ Ext w w' := by
  obtain ⟨iA, ic, dA, dc, rfl, hi, hd⟩ := hv.ex
  have hil := hi.len
  have HP0 := Lib.hid (heap_alloc_new w (.cells #[.int .i64 p.kind, .int .i64 p.level, .slice iA p.items.length ic, .slice dA p.data.length dc, .int .i64 p.next] 26))
  have hE0 := ext_alloc w (.cells #[.int .i64 p.kind, .int .i64 p.level, .slice iA p.items.length ic, .slice dA p.data.length dc, .int .i64 p.next] 26)
  clear hd
  by_cases hk0 : p.kind = 1 ∨ p.kind = 2 ∨ p.kind = 3
  rotate_left
  · have c1 : (p.kind != 1) = true := by rw [bne_iff_ne]; omega
    have c2 : (p.kind != 2) = true := by rw [bne_iff_ne]; omega
    have c3 : (p.kind != 3) = true := by rw [bne_iff_ne]; omega
    have HN := Lib.hid (show ¬ OkP p from fun ok => hk0 ok.kind)
    clear hk0
    go_enter Try.func29, Try.ntmps29
    go_wp2
    go_ret
    exact ⟨_, rfl, zero_iff (by decide) HN.out, hE0⟩
  have HK := Lib.hid hk0
  have hcs : (p.kind != 1) = false ∨ ((p.kind != 1) = true ∧ (p.kind != 2) = false) ∨ ((p.kind != 1) = true ∧ (p.kind != 2) = true ∧ (p.kind != 3) = false) := by
    rcases hk0 with h | h | h
    · exact .inl (by simp [h])
    · exact .inr (.inl ⟨by simp [h], by simp [h]⟩)
    · exact .inr (.inr ⟨by simp [h], by simp [h], by simp [h]⟩)
  clear hk0
  cases hfm : chFormB p
  · have HN := Lib.hid (notOk_form hfm)
    have HF := Lib.hid hfm
    clear hfm
    rcases hcs with c1 | ⟨c1, c2⟩ | ⟨c1, c2, c3⟩
    all_goals
      go_enter Try.func29, Try.ntmps29
      go_wp2_with fail
      refine (form_any (hv.ext hE0)).mono ?_
      rintro e w1 ⟨rfl, hE1⟩
      rw [HF.out]
      have hE := hE0.trans hE1
      clear hE1 hE0
      go_wp2
      go_ret
      exact ⟨_, rfl, zero_iff (by decide) HN.out, hE⟩
  have HF := Lib.hid hfm
  clear hfm
  rcases hcs with c1 | ⟨c1, c2⟩ | ⟨c1, c2, c3⟩
  all_goals
    go_enter Try.func29, Try.ntmps29
    go_wp2_with fail
    refine (form_any (hv.ext hE0)).mono ?_
    rintro e w1 ⟨rfl, hE1⟩
    rw [HF.out]
    have hE1' := hE0.trans hE1
    have hP1 := hE1.blk HP0.out
    clear hE1 hE0 HP0
    go_wp2
    go_loopw [3] (fun i wr => ∃ k : Nat, k ≤ p.items.length ∧ i = .int .i64 k ∧ Hid (AllIt p.kind p.items k) ∧ Ext w wr ∧ wr.heap[w.heap.size]? = some (.cells #[.int .i64 p.kind, .int .i64 p.level, .slice iA p.items.length ic, .slice dA p.data.length dc, .int .i64 p.next] 26)) (fun i _ => p.items.length - (intOf i).toNat)
    case atStart => exact ⟨0, Nat.zero_le _, rfl, Lib.hid (fun i hi => absurd hi (Nat.not_lt_zero _)), hE1', hP1⟩
    case round =>
      clear hE1' hP1
      obtain ⟨k, hkl, rfl, HA, hE, hP⟩ := hrel
      have HP := Lib.hid hP
      clear hP
      by_cases hlt : k < p.items.length
      · obtain ⟨b, o, rfl, hcx⟩ := hi.rd (by omega)
        obtain ⟨x, hx⟩ : ∃ x, p.items[k]? = some x := ⟨_, List.getElem?_eq_getElem hlt⟩
        obtain ⟨kA, kc, vA, vc, x0, x1, x2, x3, xk, xv⟩ := hcx k x hx
        have HX := Lib.hid hx
        have hic := hi.le
        have j1 : (k : Int) < p.items.length := by omega
        have hke := fun w' (h : PgV w' (.agg #[.int .i64 p.kind, .int .i64 p.level, .slice (some ⟨b, o, none⟩) p.items.length ic, .slice dA p.data.length dc, .int .i64 p.next]) p) => chKey_any (i := k) (x := x) h hx
        have hnk := fun h => notOk (k := k) (x := x) (p := p) hx h
        have HKE := Lib.hid hke
        have HNK := Lib.hid hnk
        clear hx hke hnk hlt
        have p0 := cell_of_row wr w.heap.size 0 _ _ _ HP.out
        have p1 := cell_of_row wr w.heap.size 1 _ _ _ HP.out
        have p2 := cell_of_row wr w.heap.size 2 _ _ _ HP.out
        have p3 := cell_of_row wr w.heap.size 3 _ _ _ HP.out
        have p4 := cell_of_row wr w.heap.size 4 _ _ _ HP.out
        simp only [List.getElem?_toArray, List.getElem?_cons_zero, List.getElem?_cons_succ] at p0 p1 p2 p3 p4
        go_wp2_with fail
        refine (HKE.out wr (hv.ext hE)).mono ?_
        rintro e w2 ⟨rfl, hE2⟩
        replace HP := Lib.hid (hE2.blk HP.out)
        replace hE := hE.trans hE2
        clear hE2 HKE p0 p1 p2 p3 p4
        cases hz1 : chKeyB p.kind k x
        · have HZ := Lib.hid hz1
          clear hz1
          go_wp2
          go_ret
          exact ⟨_, rfl, zero_iff (by decide) (HNK.out (fun h => by have h1 := HZ.out; rw [h.1] at h1; cases h1)), hE⟩
        have HZ1 := Lib.hid hz1
        clear hz1
        by_cases hk0 : k = 0
        · have ck : decide ((0 : Int) < (k : Int)) = false := by simp [hk0]
          have ck2 : decide (0 < k) = false := by simp [hk0]
          have HO := Lib.hid (show chOrdB p.items k x = true by unfold chOrdB; simp [hk0])
          have HK0 := Lib.hid hk0
          clear hk0
          go_wp2_with fail
          have e0 : ∀ w', Ext w2 w' → w'.cell? ⟨w.heap.size, 0, none⟩ = some (.int .i64 p.kind) := fun w' h => cell_of_row _ _ _ _ _ _ (h.blk HP.out)
          have e1 : ∀ w', Ext w2 w' → w'.cell? ⟨w.heap.size, 1, none⟩ = some (.int .i64 p.level) := fun w' h => cell_of_row _ _ _ _ _ _ (h.blk HP.out)
          have e2 : ∀ w', Ext w2 w' → w'.cell? ⟨w.heap.size, 2, none⟩ = some (.slice (some ⟨b, o, none⟩) p.items.length ic) := fun w' h => cell_of_row _ _ _ _ _ _ (h.blk HP.out)
          have e3 : ∀ w', Ext w2 w' → w'.cell? ⟨w.heap.size, 3, none⟩ = some (.slice dA p.data.length dc) := fun w' h => cell_of_row _ _ _ _ _ _ (h.blk HP.out)
          have e4 : ∀ w', Ext w2 w' → w'.cell? ⟨w.heap.size, 4, none⟩ = some (.int .i64 p.next) := fun w' h => cell_of_row _ _ _ _ _ _ (h.blk HP.out)
          refine wp_region_rg Ext rel_ext (fun _ => True) [0, 1, 2, 3, 4, 5, 6, 7, 8, 9, 10, 11, 12, 13, 14, 15, 16, 17, 18] (fun _ => none) (fun _ => none) (fun _ => false) (by kernel_rfl) (by kernel_rfl) (fun _ _ _ _ => trivial) trivial (fun W N hW _ hN => ?_)
          have hEW : Ext w2 W := hW
          repeat (first | (apply wpR_one; (case ho => (simp only [List.getElem?_toArray, List.getElem?_cons_succ, List.getElem?_cons_zero]; try exact rfl)); (case hw => rfl); (case hl => rfl); (case hsp => rfl); (case he => rfl); (case hv => (intro w' hw'; (try (have hw2 := Ext.trans hEW hw')); (try (have hw3 := Exc.trans hEW hw')); (try (have hw4 := Exk.trans hEW hw')); (try (have hw5 := Mrk.trans hEW hw')); go_simp; exact rfl)); (case hw0 => (first | exact Below.refl _ _ | exact Exc.of_ext (Below.refl _ _) | exact Exk.of_ext (Below.refl _ _) | exact Mrk.of_ext (Below.refl _ _))); simp only [Act.put, List.setIfInBounds_toArray, List.set_cons_succ, List.set_cons_zero]) | (apply wpR_early; (case ho => (simp only [List.getElem?_toArray, List.getElem?_cons_succ, List.getElem?_cons_zero]; try exact rfl)); (case hw => rfl); (case hl => rfl); (case hsp => rfl); (case he => rfl); (case hv => (intro w' hw'; (try have hw2 := Ext.trans hEW hw'); go_simp; exact rfl)); simp only [Act.put, List.setIfInBounds_toArray, List.set_cons_succ, List.set_cons_zero]) | (apply wpR_pass; (case ho => (simp only [List.getElem?_toArray, List.getElem?_cons_succ, List.getElem?_cons_zero]; try exact rfl)); (case hw => rfl); (case hl => rfl); simp only [Act.put, List.setIfInBounds_toArray, List.set_cons_succ, List.set_cons_zero]))
          apply wpR_nil
          apply hN
          intro w3 hE' hK hF
          replace HP := Lib.hid ((hEW.trans hE').blk HP.out)
          replace hE := hE.trans (hEW.trans hE')
          clear hK hF hN hEW hE' hW e0 e1 e2 e3 e4 ck ck2
          cases hz : chValB p.kind x
          · have HV := Lib.hid hz
            clear hz
            go_wp2_with fail
            have e0 : ∀ w', Ext w3 w' → w'.cell? ⟨w.heap.size, 0, none⟩ = some (.int .i64 p.kind) := fun w' h => cell_of_row _ _ _ _ _ _ (h.blk HP.out)
            have e1 : ∀ w', Ext w3 w' → w'.cell? ⟨w.heap.size, 1, none⟩ = some (.int .i64 p.level) := fun w' h => cell_of_row _ _ _ _ _ _ (h.blk HP.out)
            have e2 : ∀ w', Ext w3 w' → w'.cell? ⟨w.heap.size, 2, none⟩ = some (.slice (some ⟨b, o, none⟩) p.items.length ic) := fun w' h => cell_of_row _ _ _ _ _ _ (h.blk HP.out)
            have e3 : ∀ w', Ext w3 w' → w'.cell? ⟨w.heap.size, 3, none⟩ = some (.slice dA p.data.length dc) := fun w' h => cell_of_row _ _ _ _ _ _ (h.blk HP.out)
            have e4 : ∀ w', Ext w3 w' → w'.cell? ⟨w.heap.size, 4, none⟩ = some (.int .i64 p.next) := fun w' h => cell_of_row _ _ _ _ _ _ (h.blk HP.out)
            have q0 : ∀ w', Ext w3 w' → w'.cell? ⟨b, o + k * 4, none⟩ = some (.slice kA x.key.length kc) := fun w' h => (hE.trans h).cell x0
            have q1 : ∀ w', Ext w3 w' → w'.cell? ⟨b, o + k * 4 + 1, none⟩ = some (.slice vA x.val.length vc) := fun w' h => (hE.trans h).cell x1
            have q2 : ∀ w', Ext w3 w' → w'.cell? ⟨b, o + k * 4 + 2, none⟩ = some (.int .i64 x.ch) := fun w' h => (hE.trans h).cell x2
            have q3 : ∀ w', Ext w3 w' → w'.cell? ⟨b, o + k * 4 + 3, none⟩ = some (.int .i64 x.sz) := fun w' h => (hE.trans h).cell x3
            refine wp_region_rg Ext rel_ext (fun _ => True) [0, 1, 2, 3, 4, 5, 6, 7] (fun i => match i with
              | 6 => some fun _ => eqV (.bool false)
              | _ => none) (fun _ => none) (fun _ => false) (by kernel_rfl) (by kernel_rfl) (fun _ _ _ _ => trivial) trivial (fun W N hW _ hN => ?_)
            have hEW : Ext w3 W := hW
            repeat (first | (apply wpR_one; (case ho => (simp only [List.getElem?_toArray, List.getElem?_cons_succ, List.getElem?_cons_zero]; try exact rfl)); (case hw => rfl); (case hl => rfl); (case hsp => rfl); (case he => rfl); (case hv => (intro w' hw'; (try (have hw2 := Ext.trans hEW hw')); (try (have hw3 := Exc.trans hEW hw')); (try (have hw4 := Exk.trans hEW hw')); (try (have hw5 := Mrk.trans hEW hw')); go_simp; exact rfl)); (case hw0 => (first | exact Below.refl _ _ | exact Exc.of_ext (Below.refl _ _) | exact Exk.of_ext (Below.refl _ _) | exact Mrk.of_ext (Below.refl _ _))); simp only [Act.put, List.setIfInBounds_toArray, List.set_cons_succ, List.set_cons_zero]) | (apply wpR_early; (case ho => (simp only [List.getElem?_toArray, List.getElem?_cons_succ, List.getElem?_cons_zero]; try exact rfl)); (case hw => rfl); (case hl => rfl); (case hsp => rfl); (case he => rfl); (case hv => (intro w' hw'; (try have hw2 := Ext.trans hEW hw'); go_simp; exact rfl)); simp only [Act.put, List.setIfInBounds_toArray, List.set_cons_succ, List.set_cons_zero]) | (apply wpR_pass; (case ho => (simp only [List.getElem?_toArray, List.getElem?_cons_succ, List.getElem?_cons_zero]; try exact rfl)); (case hw => rfl); (case hl => rfl); simp only [Act.put, List.setIfInBounds_toArray, List.set_cons_succ, List.set_cons_zero]))
            refine wpR_new (by ((simp only [List.getElem?_toArray, List.getElem?_cons_succ, List.getElem?_cons_zero]; try exact rfl))) _ rfl rfl rfl (fun V v => eqV.lasts _ v) (fun V V' h => rfl) (fun w' hw' hK => ?_) (fun u hu => ?_)
            · clear hK
              have hX := hE.trans (hEW.trans hw')
              unfold opAt; go_simp; refine upAt_enter ?_
              refine (chVal_any (hv.ext hX) ⟨kA, kc, vA, vc, rfl, xk.ext hX, xv.ext hX⟩).mono ?_
              rintro e w9 ⟨rfl, hE9⟩
              rw [HV.out]
              exact ⟨_, rfl, hE9, rfl⟩
            obtain rfl : u = .bool false := hu.choose_spec.2.2
            clear hu
            simp only [Act.put, List.setIfInBounds_toArray, List.set_cons_succ, List.set_cons_zero]
            repeat (first | (apply wpR_one; (case ho => (simp only [List.getElem?_toArray, List.getElem?_cons_succ, List.getElem?_cons_zero]; try exact rfl)); (case hw => rfl); (case hl => rfl); (case hsp => rfl); (case he => rfl); (case hv => (intro w' hw'; (try (have hw2 := Ext.trans hEW hw')); (try (have hw3 := Exc.trans hEW hw')); (try (have hw4 := Exk.trans hEW hw')); (try (have hw5 := Mrk.trans hEW hw')); go_simp; exact rfl)); (case hw0 => (first | exact Below.refl _ _ | exact Exc.of_ext (Below.refl _ _) | exact Exk.of_ext (Below.refl _ _) | exact Mrk.of_ext (Below.refl _ _))); simp only [Act.put, List.setIfInBounds_toArray, List.set_cons_succ, List.set_cons_zero]) | (apply wpR_early; (case ho => (simp only [List.getElem?_toArray, List.getElem?_cons_succ, List.getElem?_cons_zero]; try exact rfl)); (case hw => rfl); (case hl => rfl); (case hsp => rfl); (case he => rfl); (case hv => (intro w' hw'; (try have hw2 := Ext.trans hEW hw'); go_simp; exact rfl)); simp only [Act.put, List.setIfInBounds_toArray, List.set_cons_succ, List.set_cons_zero]) | (apply wpR_pass; (case ho => (simp only [List.getElem?_toArray, List.getElem?_cons_succ, List.getElem?_cons_zero]; try exact rfl)); (case hw => rfl); (case hl => rfl); simp only [Act.put, List.setIfInBounds_toArray, List.set_cons_succ, List.set_cons_zero]))
            apply wpR_nil
            apply hN
            intro w4 hE' hK hF
            replace HP := Lib.hid ((hEW.trans hE').blk HP.out)
            replace hE := hE.trans (hEW.trans hE')
            clear hK hF hN hEW hE' hW e0 e1 e2 e3 e4 q0 q1 q2 q3
            go_wp2
            go_ret
            exact ⟨_, rfl, zero_iff (by decide) (HNK.out (fun h => by have h1 := HV.out; rw [h.2.2.1] at h1; cases h1)), hE⟩
          have HV := Lib.hid hz
          clear hz
          go_wp2_with fail
          have e0 : ∀ w', Ext w3 w' → w'.cell? ⟨w.heap.size, 0, none⟩ = some (.int .i64 p.kind) := fun w' h => cell_of_row _ _ _ _ _ _ (h.blk HP.out)
          have e1 : ∀ w', Ext w3 w' → w'.cell? ⟨w.heap.size, 1, none⟩ = some (.int .i64 p.level) := fun w' h => cell_of_row _ _ _ _ _ _ (h.blk HP.out)
          have e2 : ∀ w', Ext w3 w' → w'.cell? ⟨w.heap.size, 2, none⟩ = some (.slice (some ⟨b, o, none⟩) p.items.length ic) := fun w' h => cell_of_row _ _ _ _ _ _ (h.blk HP.out)
          have e3 : ∀ w', Ext w3 w' → w'.cell? ⟨w.heap.size, 3, none⟩ = some (.slice dA p.data.length dc) := fun w' h => cell_of_row _ _ _ _ _ _ (h.blk HP.out)
          have e4 : ∀ w', Ext w3 w' → w'.cell? ⟨w.heap.size, 4, none⟩ = some (.int .i64 p.next) := fun w' h => cell_of_row _ _ _ _ _ _ (h.blk HP.out)
          have q0 : ∀ w', Ext w3 w' → w'.cell? ⟨b, o + k * 4, none⟩ = some (.slice kA x.key.length kc) := fun w' h => (hE.trans h).cell x0
          have q1 : ∀ w', Ext w3 w' → w'.cell? ⟨b, o + k * 4 + 1, none⟩ = some (.slice vA x.val.length vc) := fun w' h => (hE.trans h).cell x1
          have q2 : ∀ w', Ext w3 w' → w'.cell? ⟨b, o + k * 4 + 2, none⟩ = some (.int .i64 x.ch) := fun w' h => (hE.trans h).cell x2
          have q3 : ∀ w', Ext w3 w' → w'.cell? ⟨b, o + k * 4 + 3, none⟩ = some (.int .i64 x.sz) := fun w' h => (hE.trans h).cell x3
          refine wp_region_rg Ext rel_ext (fun _ => True) [0, 1, 2, 3, 4, 5, 6, 7] (fun i => match i with
            | 6 => some fun _ => eqV (.bool true)
            | _ => none) (fun _ => none) (fun _ => false) (by kernel_rfl) (by kernel_rfl) (fun _ _ _ _ => trivial) trivial (fun W N hW _ hN => ?_)
          have hEW : Ext w3 W := hW
          repeat (first | (apply wpR_one; (case ho => (simp only [List.getElem?_toArray, List.getElem?_cons_succ, List.getElem?_cons_zero]; try exact rfl)); (case hw => rfl); (case hl => rfl); (case hsp => rfl); (case he => rfl); (case hv => (intro w' hw'; (try (have hw2 := Ext.trans hEW hw')); (try (have hw3 := Exc.trans hEW hw')); (try (have hw4 := Exk.trans hEW hw')); (try (have hw5 := Mrk.trans hEW hw')); go_simp; exact rfl)); (case hw0 => (first | exact Below.refl _ _ | exact Exc.of_ext (Below.refl _ _) | exact Exk.of_ext (Below.refl _ _) | exact Mrk.of_ext (Below.refl _ _))); simp only [Act.put, List.setIfInBounds_toArray, List.set_cons_succ, List.set_cons_zero]) | (apply wpR_early; (case ho => (simp only [List.getElem?_toArray, List.getElem?_cons_succ, List.getElem?_cons_zero]; try exact rfl)); (case hw => rfl); (case hl => rfl); (case hsp => rfl); (case he => rfl); (case hv => (intro w' hw'; (try have hw2 := Ext.trans hEW hw'); go_simp; exact rfl)); simp only [Act.put, List.setIfInBounds_toArray, List.set_cons_succ, List.set_cons_zero]) | (apply wpR_pass; (case ho => (simp only [List.getElem?_toArray, List.getElem?_cons_succ, List.getElem?_cons_zero]; try exact rfl)); (case hw => rfl); (case hl => rfl); simp only [Act.put, List.setIfInBounds_toArray, List.set_cons_succ, List.set_cons_zero]))
          refine wpR_new (by ((simp only [List.getElem?_toArray, List.getElem?_cons_succ, List.getElem?_cons_zero]; try exact rfl))) _ rfl rfl rfl (fun V v => eqV.lasts _ v) (fun V V' h => rfl) (fun w' hw' hK => ?_) (fun u hu => ?_)
          · clear hK
            have hX := hE.trans (hEW.trans hw')
            unfold opAt; go_simp; refine upAt_enter ?_
            refine (chVal_any (hv.ext hX) ⟨kA, kc, vA, vc, rfl, xk.ext hX, xv.ext hX⟩).mono ?_
            rintro e w9 ⟨rfl, hE9⟩
            rw [HV.out]
            exact ⟨_, rfl, hE9, rfl⟩
          obtain rfl : u = .bool true := hu.choose_spec.2.2
          clear hu
          simp only [Act.put, List.setIfInBounds_toArray, List.set_cons_succ, List.set_cons_zero]
          repeat (first | (apply wpR_one; (case ho => (simp only [List.getElem?_toArray, List.getElem?_cons_succ, List.getElem?_cons_zero]; try exact rfl)); (case hw => rfl); (case hl => rfl); (case hsp => rfl); (case he => rfl); (case hv => (intro w' hw'; (try (have hw2 := Ext.trans hEW hw')); (try (have hw3 := Exc.trans hEW hw')); (try (have hw4 := Exk.trans hEW hw')); (try (have hw5 := Mrk.trans hEW hw')); go_simp; exact rfl)); (case hw0 => (first | exact Below.refl _ _ | exact Exc.of_ext (Below.refl _ _) | exact Exk.of_ext (Below.refl _ _) | exact Mrk.of_ext (Below.refl _ _))); simp only [Act.put, List.setIfInBounds_toArray, List.set_cons_succ, List.set_cons_zero]) | (apply wpR_early; (case ho => (simp only [List.getElem?_toArray, List.getElem?_cons_succ, List.getElem?_cons_zero]; try exact rfl)); (case hw => rfl); (case hl => rfl); (case hsp => rfl); (case he => rfl); (case hv => (intro w' hw'; (try have hw2 := Ext.trans hEW hw'); go_simp; exact rfl)); simp only [Act.put, List.setIfInBounds_toArray, List.set_cons_succ, List.set_cons_zero]) | (apply wpR_pass; (case ho => (simp only [List.getElem?_toArray, List.getElem?_cons_succ, List.getElem?_cons_zero]; try exact rfl)); (case hw => rfl); (case hl => rfl); simp only [Act.put, List.setIfInBounds_toArray, List.set_cons_succ, List.set_cons_zero]))
          apply wpR_nil
          apply hN
          intro w4 hE' hK hF
          replace HP := Lib.hid ((hEW.trans hE').blk HP.out)
          replace hE := hE.trans (hEW.trans hE')
          clear hK hF hN hEW hE' hW e0 e1 e2 e3 e4 q0 q1 q2 q3
          cases hz : chChB p.kind x
          · have HC := Lib.hid hz
            clear hz
            go_wp2_with fail
            have e0 : ∀ w', Ext w4 w' → w'.cell? ⟨w.heap.size, 0, none⟩ = some (.int .i64 p.kind) := fun w' h => cell_of_row _ _ _ _ _ _ (h.blk HP.out)
            have e1 : ∀ w', Ext w4 w' → w'.cell? ⟨w.heap.size, 1, none⟩ = some (.int .i64 p.level) := fun w' h => cell_of_row _ _ _ _ _ _ (h.blk HP.out)
            have e2 : ∀ w', Ext w4 w' → w'.cell? ⟨w.heap.size, 2, none⟩ = some (.slice (some ⟨b, o, none⟩) p.items.length ic) := fun w' h => cell_of_row _ _ _ _ _ _ (h.blk HP.out)
            have e3 : ∀ w', Ext w4 w' → w'.cell? ⟨w.heap.size, 3, none⟩ = some (.slice dA p.data.length dc) := fun w' h => cell_of_row _ _ _ _ _ _ (h.blk HP.out)
            have e4 : ∀ w', Ext w4 w' → w'.cell? ⟨w.heap.size, 4, none⟩ = some (.int .i64 p.next) := fun w' h => cell_of_row _ _ _ _ _ _ (h.blk HP.out)
            have q0 : ∀ w', Ext w4 w' → w'.cell? ⟨b, o + k * 4, none⟩ = some (.slice kA x.key.length kc) := fun w' h => (hE.trans h).cell x0
            have q1 : ∀ w', Ext w4 w' → w'.cell? ⟨b, o + k * 4 + 1, none⟩ = some (.slice vA x.val.length vc) := fun w' h => (hE.trans h).cell x1
            have q2 : ∀ w', Ext w4 w' → w'.cell? ⟨b, o + k * 4 + 2, none⟩ = some (.int .i64 x.ch) := fun w' h => (hE.trans h).cell x2
            have q3 : ∀ w', Ext w4 w' → w'.cell? ⟨b, o + k * 4 + 3, none⟩ = some (.int .i64 x.sz) := fun w' h => (hE.trans h).cell x3
            refine wp_region_rg Ext rel_ext (fun _ => True) [0, 1, 2, 3, 4, 5, 6, 7] (fun i => match i with
              | 6 => some fun _ => eqV (.bool false)
              | _ => none) (fun _ => none) (fun _ => false) (by kernel_rfl) (by kernel_rfl) (fun _ _ _ _ => trivial) trivial (fun W N hW _ hN => ?_)
            have hEW : Ext w4 W := hW
            repeat (first | (apply wpR_one; (case ho => (simp only [List.getElem?_toArray, List.getElem?_cons_succ, List.getElem?_cons_zero]; try exact rfl)); (case hw => rfl); (case hl => rfl); (case hsp => rfl); (case he => rfl); (case hv => (intro w' hw'; (try (have hw2 := Ext.trans hEW hw')); (try (have hw3 := Exc.trans hEW hw')); (try (have hw4 := Exk.trans hEW hw')); (try (have hw5 := Mrk.trans hEW hw')); go_simp; exact rfl)); (case hw0 => (first | exact Below.refl _ _ | exact Exc.of_ext (Below.refl _ _) | exact Exk.of_ext (Below.refl _ _) | exact Mrk.of_ext (Below.refl _ _))); simp only [Act.put, List.setIfInBounds_toArray, List.set_cons_succ, List.set_cons_zero]) | (apply wpR_early; (case ho => (simp only [List.getElem?_toArray, List.getElem?_cons_succ, List.getElem?_cons_zero]; try exact rfl)); (case hw => rfl); (case hl => rfl); (case hsp => rfl); (case he => rfl); (case hv => (intro w' hw'; (try have hw2 := Ext.trans hEW hw'); go_simp; exact rfl)); simp only [Act.put, List.setIfInBounds_toArray, List.set_cons_succ, List.set_cons_zero]) | (apply wpR_pass; (case ho => (simp only [List.getElem?_toArray, List.getElem?_cons_succ, List.getElem?_cons_zero]; try exact rfl)); (case hw => rfl); (case hl => rfl); simp only [Act.put, List.setIfInBounds_toArray, List.set_cons_succ, List.set_cons_zero]))
            refine wpR_new (by ((simp only [List.getElem?_toArray, List.getElem?_cons_succ, List.getElem?_cons_zero]; try exact rfl))) _ rfl rfl rfl (fun V v => eqV.lasts _ v) (fun V V' h => rfl) (fun w' hw' hK => ?_) (fun u hu => ?_)
            · clear hK
              have hX := hE.trans (hEW.trans hw')
              unfold opAt; go_simp; refine upAt_enter ?_
              refine (chCh_any (hv.ext hX) ⟨kA, kc, vA, vc, rfl, xk.ext hX, xv.ext hX⟩).mono ?_
              rintro e w9 ⟨rfl, hE9⟩
              rw [HC.out]
              exact ⟨_, rfl, hE9, rfl⟩
            obtain rfl : u = .bool false := hu.choose_spec.2.2
            clear hu
            simp only [Act.put, List.setIfInBounds_toArray, List.set_cons_succ, List.set_cons_zero]
            repeat (first | (apply wpR_one; (case ho => (simp only [List.getElem?_toArray, List.getElem?_cons_succ, List.getElem?_cons_zero]; try exact rfl)); (case hw => rfl); (case hl => rfl); (case hsp => rfl); (case he => rfl); (case hv => (intro w' hw'; (try (have hw2 := Ext.trans hEW hw')); (try (have hw3 := Exc.trans hEW hw')); (try (have hw4 := Exk.trans hEW hw')); (try (have hw5 := Mrk.trans hEW hw')); go_simp; exact rfl)); (case hw0 => (first | exact Below.refl _ _ | exact Exc.of_ext (Below.refl _ _) | exact Exk.of_ext (Below.refl _ _) | exact Mrk.of_ext (Below.refl _ _))); simp only [Act.put, List.setIfInBounds_toArray, List.set_cons_succ, List.set_cons_zero]) | (apply wpR_early; (case ho => (simp only [List.getElem?_toArray, List.getElem?_cons_succ, List.getElem?_cons_zero]; try exact rfl)); (case hw => rfl); (case hl => rfl); (case hsp => rfl); (case he => rfl); (case hv => (intro w' hw'; (try have hw2 := Ext.trans hEW hw'); go_simp; exact rfl)); simp only [Act.put, List.setIfInBounds_toArray, List.set_cons_succ, List.set_cons_zero]) | (apply wpR_pass; (case ho => (simp only [List.getElem?_toArray, List.getElem?_cons_succ, List.getElem?_cons_zero]; try exact rfl)); (case hw => rfl); (case hl => rfl); simp only [Act.put, List.setIfInBounds_toArray, List.set_cons_succ, List.set_cons_zero]))
            apply wpR_nil
            apply hN
            intro w5 hE' hK hF
            replace HP := Lib.hid ((hEW.trans hE').blk HP.out)
            replace hE := hE.trans (hEW.trans hE')
            clear hK hF hN hEW hE' hW e0 e1 e2 e3 e4 q0 q1 q2 q3
            go_wp2
            go_ret
            exact ⟨_, rfl, zero_iff (by decide) (HNK.out (fun h => by have h1 := HC.out; rw [h.2.2.2] at h1; cases h1)), hE⟩
          have HC := Lib.hid hz
          clear hz
          go_wp2_with fail
          have e0 : ∀ w', Ext w4 w' → w'.cell? ⟨w.heap.size, 0, none⟩ = some (.int .i64 p.kind) := fun w' h => cell_of_row _ _ _ _ _ _ (h.blk HP.out)
          have e1 : ∀ w', Ext w4 w' → w'.cell? ⟨w.heap.size, 1, none⟩ = some (.int .i64 p.level) := fun w' h => cell_of_row _ _ _ _ _ _ (h.blk HP.out)
          have e2 : ∀ w', Ext w4 w' → w'.cell? ⟨w.heap.size, 2, none⟩ = some (.slice (some ⟨b, o, none⟩) p.items.length ic) := fun w' h => cell_of_row _ _ _ _ _ _ (h.blk HP.out)
          have e3 : ∀ w', Ext w4 w' → w'.cell? ⟨w.heap.size, 3, none⟩ = some (.slice dA p.data.length dc) := fun w' h => cell_of_row _ _ _ _ _ _ (h.blk HP.out)
          have e4 : ∀ w', Ext w4 w' → w'.cell? ⟨w.heap.size, 4, none⟩ = some (.int .i64 p.next) := fun w' h => cell_of_row _ _ _ _ _ _ (h.blk HP.out)
          have q0 : ∀ w', Ext w4 w' → w'.cell? ⟨b, o + k * 4, none⟩ = some (.slice kA x.key.length kc) := fun w' h => (hE.trans h).cell x0
          have q1 : ∀ w', Ext w4 w' → w'.cell? ⟨b, o + k * 4 + 1, none⟩ = some (.slice vA x.val.length vc) := fun w' h => (hE.trans h).cell x1
          have q2 : ∀ w', Ext w4 w' → w'.cell? ⟨b, o + k * 4 + 2, none⟩ = some (.int .i64 x.ch) := fun w' h => (hE.trans h).cell x2
          have q3 : ∀ w', Ext w4 w' → w'.cell? ⟨b, o + k * 4 + 3, none⟩ = some (.int .i64 x.sz) := fun w' h => (hE.trans h).cell x3
          refine wp_region_rg Ext rel_ext (fun _ => True) [0, 1, 2, 3, 4, 5, 6, 7] (fun i => match i with
            | 6 => some fun _ => eqV (.bool true)
            | _ => none) (fun _ => none) (fun _ => false) (by kernel_rfl) (by kernel_rfl) (fun _ _ _ _ => trivial) trivial (fun W N hW _ hN => ?_)
          have hEW : Ext w4 W := hW
          repeat (first | (apply wpR_one; (case ho => (simp only [List.getElem?_toArray, List.getElem?_cons_succ, List.getElem?_cons_zero]; try exact rfl)); (case hw => rfl); (case hl => rfl); (case hsp => rfl); (case he => rfl); (case hv => (intro w' hw'; (try (have hw2 := Ext.trans hEW hw')); (try (have hw3 := Exc.trans hEW hw')); (try (have hw4 := Exk.trans hEW hw')); (try (have hw5 := Mrk.trans hEW hw')); go_simp; exact rfl)); (case hw0 => (first | exact Below.refl _ _ | exact Exc.of_ext (Below.refl _ _) | exact Exk.of_ext (Below.refl _ _) | exact Mrk.of_ext (Below.refl _ _))); simp only [Act.put, List.setIfInBounds_toArray, List.set_cons_succ, List.set_cons_zero]) | (apply wpR_early; (case ho => (simp only [List.getElem?_toArray, List.getElem?_cons_succ, List.getElem?_cons_zero]; try exact rfl)); (case hw => rfl); (case hl => rfl); (case hsp => rfl); (case he => rfl); (case hv => (intro w' hw'; (try have hw2 := Ext.trans hEW hw'); go_simp; exact rfl)); simp only [Act.put, List.setIfInBounds_toArray, List.set_cons_succ, List.set_cons_zero]) | (apply wpR_pass; (case ho => (simp only [List.getElem?_toArray, List.getElem?_cons_succ, List.getElem?_cons_zero]; try exact rfl)); (case hw => rfl); (case hl => rfl); simp only [Act.put, List.setIfInBounds_toArray, List.set_cons_succ, List.set_cons_zero]))
          refine wpR_new (by ((simp only [List.getElem?_toArray, List.getElem?_cons_succ, List.getElem?_cons_zero]; try exact rfl))) _ rfl rfl rfl (fun V v => eqV.lasts _ v) (fun V V' h => rfl) (fun w' hw' hK => ?_) (fun u hu => ?_)
          · clear hK
            have hX := hE.trans (hEW.trans hw')
            unfold opAt; go_simp; refine upAt_enter ?_
            refine (chCh_any (hv.ext hX) ⟨kA, kc, vA, vc, rfl, xk.ext hX, xv.ext hX⟩).mono ?_
            rintro e w9 ⟨rfl, hE9⟩
            rw [HC.out]
            exact ⟨_, rfl, hE9, rfl⟩
          obtain rfl : u = .bool true := hu.choose_spec.2.2
          clear hu
          simp only [Act.put, List.setIfInBounds_toArray, List.set_cons_succ, List.set_cons_zero]
          repeat (first | (apply wpR_one; (case ho => (simp only [List.getElem?_toArray, List.getElem?_cons_succ, List.getElem?_cons_zero]; try exact rfl)); (case hw => rfl); (case hl => rfl); (case hsp => rfl); (case he => rfl); (case hv => (intro w' hw'; (try (have hw2 := Ext.trans hEW hw')); (try (have hw3 := Exc.trans hEW hw')); (try (have hw4 := Exk.trans hEW hw')); (try (have hw5 := Mrk.trans hEW hw')); go_simp; exact rfl)); (case hw0 => (first | exact Below.refl _ _ | exact Exc.of_ext (Below.refl _ _) | exact Exk.of_ext (Below.refl _ _) | exact Mrk.of_ext (Below.refl _ _))); simp only [Act.put, List.setIfInBounds_toArray, List.set_cons_succ, List.set_cons_zero]) | (apply wpR_early; (case ho => (simp only [List.getElem?_toArray, List.getElem?_cons_succ, List.getElem?_cons_zero]; try exact rfl)); (case hw => rfl); (case hl => rfl); (case hsp => rfl); (case he => rfl); (case hv => (intro w' hw'; (try have hw2 := Ext.trans hEW hw'); go_simp; exact rfl)); simp only [Act.put, List.setIfInBounds_toArray, List.set_cons_succ, List.set_cons_zero]) | (apply wpR_pass; (case ho => (simp only [List.getElem?_toArray, List.getElem?_cons_succ, List.getElem?_cons_zero]; try exact rfl)); (case hw => rfl); (case hl => rfl); simp only [Act.put, List.setIfInBounds_toArray, List.set_cons_succ, List.set_cons_zero]))
          apply wpR_nil
          apply hN
          intro w5 hE' hK hF
          replace HP := Lib.hid ((hEW.trans hE').blk HP.out)
          replace hE := hE.trans (hEW.trans hE')
          clear hK hF hN hEW hE' hW e0 e1 e2 e3 e4 q0 q1 q2 q3
          go_wp2
          go_roundw
          case rel => exact ⟨k + 1, by omega, by rw [Int.natCast_succ], Lib.hid (allIt_succ HA.out (chIt_of HX.out HZ1.out HO.out HV.out HC.out)), hE, HP.out⟩
          case measure => simp [intOf]; omega
        · have ck : decide ((0 : Int) < (k : Int)) = true := by simp; omega
          have hk1 : 0 < k := by omega
          have i1 : (1 : Int) ≤ (k : Int) := by omega
          obtain ⟨y, hy⟩ : ∃ y, p.items[k - 1]? = some y := ⟨_, List.getElem?_eq_getElem (by omega)⟩
          obtain ⟨kB, kd, vB, vd, y0, y1, y2, y3, yk, yv⟩ := hcx (k - 1) y hy
          have hsub : IntKind.i64.wrap ((k : Int) - 1) = (k : Int) - 1 := IntWalk.i64_in _ (by omega)
          have hto : ((k : Int) - 1).toNat = k - 1 := by omega
          have i2 : (k : Int) - 1 < p.items.length := by omega
          have i3 : (0 : Int) ≤ (k : Int) - 1 := by omega
          have HOR := Lib.hid (show chOrdB p.items k x = decide (0 < cmpB x.key y.key) by
            unfold chOrdB
            rw [List.getD_eq_getElem?_getD, hy, Option.getD_some]
            simp; omega)
          clear hy hk0 y1 y2 y3 yv
          obtain ⟨cv, hcv⟩ : ∃ c, cmpB x.key y.key = c := ⟨_, rfl⟩
          have HCV := Lib.hid hcv
          clear hcv
          go_wp2_with fail
          have e0 : ∀ w', Ext w2 w' → w'.cell? ⟨w.heap.size, 0, none⟩ = some (.int .i64 p.kind) := fun w' h => cell_of_row _ _ _ _ _ _ (h.blk HP.out)
          have e1 : ∀ w', Ext w2 w' → w'.cell? ⟨w.heap.size, 1, none⟩ = some (.int .i64 p.level) := fun w' h => cell_of_row _ _ _ _ _ _ (h.blk HP.out)
          have e2 : ∀ w', Ext w2 w' → w'.cell? ⟨w.heap.size, 2, none⟩ = some (.slice (some ⟨b, o, none⟩) p.items.length ic) := fun w' h => cell_of_row _ _ _ _ _ _ (h.blk HP.out)
          have e3 : ∀ w', Ext w2 w' → w'.cell? ⟨w.heap.size, 3, none⟩ = some (.slice dA p.data.length dc) := fun w' h => cell_of_row _ _ _ _ _ _ (h.blk HP.out)
          have e4 : ∀ w', Ext w2 w' → w'.cell? ⟨w.heap.size, 4, none⟩ = some (.int .i64 p.next) := fun w' h => cell_of_row _ _ _ _ _ _ (h.blk HP.out)
          have q0 : ∀ w', Ext w2 w' → w'.cell? ⟨b, o + k * 4, none⟩ = some (.slice kA x.key.length kc) := fun w' h => (hE.trans h).cell x0
          have r0 : ∀ w', Ext w2 w' → w'.cell? ⟨b, o + (k - 1) * 4, none⟩ = some (.slice kB y.key.length kd) := fun w' h => (hE.trans h).cell y0
          refine wp_region_rg Ext rel_ext (fun _ => True) [0, 1, 2, 3, 4, 5, 6, 7, 8, 9, 10, 11, 12, 13, 14, 15, 16, 17, 18] (fun i => match i with
            | 16 => some fun _ => eqV (.int .i64 cv)
            | _ => none) (fun _ => none) (fun _ => false) (by kernel_rfl) (by kernel_rfl) (fun _ _ _ _ => trivial) trivial (fun W N hW _ hN => ?_)
          have hEW : Ext w2 W := hW
          repeat (first | (apply wpR_one; (case ho => (simp only [List.getElem?_toArray, List.getElem?_cons_succ, List.getElem?_cons_zero]; try exact rfl)); (case hw => rfl); (case hl => rfl); (case hsp => rfl); (case he => rfl); (case hv => (intro w' hw'; (try (have hw2 := Ext.trans hEW hw')); (try (have hw3 := Exc.trans hEW hw')); (try (have hw4 := Exk.trans hEW hw')); (try (have hw5 := Mrk.trans hEW hw')); go_simp; exact rfl)); (case hw0 => (first | exact Below.refl _ _ | exact Exc.of_ext (Below.refl _ _) | exact Exk.of_ext (Below.refl _ _) | exact Mrk.of_ext (Below.refl _ _))); simp only [Act.put, List.setIfInBounds_toArray, List.set_cons_succ, List.set_cons_zero]) | (apply wpR_early; (case ho => (simp only [List.getElem?_toArray, List.getElem?_cons_succ, List.getElem?_cons_zero]; try exact rfl)); (case hw => rfl); (case hl => rfl); (case hsp => rfl); (case he => rfl); (case hv => (intro w' hw'; (try have hw2 := Ext.trans hEW hw'); go_simp; exact rfl)); simp only [Act.put, List.setIfInBounds_toArray, List.set_cons_succ, List.set_cons_zero]) | (apply wpR_pass; (case ho => (simp only [List.getElem?_toArray, List.getElem?_cons_succ, List.getElem?_cons_zero]; try exact rfl)); (case hw => rfl); (case hl => rfl); simp only [Act.put, List.setIfInBounds_toArray, List.set_cons_succ, List.set_cons_zero]))
          refine wpR_new (by ((simp only [List.getElem?_toArray, List.getElem?_cons_succ, List.getElem?_cons_zero]; try exact rfl))) _ rfl rfl rfl (fun V v => eqV.lasts _ v) (fun V V' h => rfl) (fun w' hw' hK => ?_) (fun u hu => ?_)
          · clear hK
            have hX := hE.trans (hEW.trans hw')
            unfold opAt; go_simp; refine upAt_enter ?_
            refine (compare_any (xk.ext hX) (yk.ext hX)).mono ?_
            rintro e w3 ⟨rfl, hE3⟩
            rw [HCV.out]
            exact ⟨_, rfl, hE3, rfl⟩
          obtain rfl : u = .int .i64 cv := hu.choose_spec.2.2
          clear hu
          simp only [Act.put, List.setIfInBounds_toArray, List.set_cons_succ, List.set_cons_zero]
          repeat (first | (apply wpR_one; (case ho => (simp only [List.getElem?_toArray, List.getElem?_cons_succ, List.getElem?_cons_zero]; try exact rfl)); (case hw => rfl); (case hl => rfl); (case hsp => rfl); (case he => rfl); (case hv => (intro w' hw'; (try (have hw2 := Ext.trans hEW hw')); (try (have hw3 := Exc.trans hEW hw')); (try (have hw4 := Exk.trans hEW hw')); (try (have hw5 := Mrk.trans hEW hw')); go_simp; exact rfl)); (case hw0 => (first | exact Below.refl _ _ | exact Exc.of_ext (Below.refl _ _) | exact Exk.of_ext (Below.refl _ _) | exact Mrk.of_ext (Below.refl _ _))); simp only [Act.put, List.setIfInBounds_toArray, List.set_cons_succ, List.set_cons_zero]) | (apply wpR_early; (case ho => (simp only [List.getElem?_toArray, List.getElem?_cons_succ, List.getElem?_cons_zero]; try exact rfl)); (case hw => rfl); (case hl => rfl); (case hsp => rfl); (case he => rfl); (case hv => (intro w' hw'; (try have hw2 := Ext.trans hEW hw'); go_simp; exact rfl)); simp only [Act.put, List.setIfInBounds_toArray, List.set_cons_succ, List.set_cons_zero]) | (apply wpR_pass; (case ho => (simp only [List.getElem?_toArray, List.getElem?_cons_succ, List.getElem?_cons_zero]; try exact rfl)); (case hw => rfl); (case hl => rfl); simp only [Act.put, List.setIfInBounds_toArray, List.set_cons_succ, List.set_cons_zero]))
          apply wpR_nil
          apply hN
          intro w3 hE' hK hF
          replace HP := Lib.hid ((hEW.trans hE').blk HP.out)
          replace hE := hE.trans (hEW.trans hE')
          clear hK hF hN hEW hE' hW e0 e1 e2 e3 e4 ck q0 r0 hsub hto y0 yk
          by_cases hcl : cv ≤ 0
          · have HCL := Lib.hid hcl
            go_wp2
            go_ret
            exact ⟨_, rfl, zero_iff (by decide) (HNK.out (fun h => by have h1 := h.2.1; rw [HOR.out, HCV.out] at h1; have h2 := HCL.out; simp at h1; omega)), hE⟩
          have hc0 : 0 < cv := by omega
          have HO := Lib.hid (show chOrdB p.items k x = true by rw [HOR.out, HCV.out]; simpa using hc0)
          clear hcl
          cases hz : chValB p.kind x
          · have HV := Lib.hid hz
            clear hz
            go_wp2_with fail
            have e0 : ∀ w', Ext w3 w' → w'.cell? ⟨w.heap.size, 0, none⟩ = some (.int .i64 p.kind) := fun w' h => cell_of_row _ _ _ _ _ _ (h.blk HP.out)
            have e1 : ∀ w', Ext w3 w' → w'.cell? ⟨w.heap.size, 1, none⟩ = some (.int .i64 p.level) := fun w' h => cell_of_row _ _ _ _ _ _ (h.blk HP.out)
            have e2 : ∀ w', Ext w3 w' → w'.cell? ⟨w.heap.size, 2, none⟩ = some (.slice (some ⟨b, o, none⟩) p.items.length ic) := fun w' h => cell_of_row _ _ _ _ _ _ (h.blk HP.out)
            have e3 : ∀ w', Ext w3 w' → w'.cell? ⟨w.heap.size, 3, none⟩ = some (.slice dA p.data.length dc) := fun w' h => cell_of_row _ _ _ _ _ _ (h.blk HP.out)
            have e4 : ∀ w', Ext w3 w' → w'.cell? ⟨w.heap.size, 4, none⟩ = some (.int .i64 p.next) := fun w' h => cell_of_row _ _ _ _ _ _ (h.blk HP.out)
            have q0 : ∀ w', Ext w3 w' → w'.cell? ⟨b, o + k * 4, none⟩ = some (.slice kA x.key.length kc) := fun w' h => (hE.trans h).cell x0
            have q1 : ∀ w', Ext w3 w' → w'.cell? ⟨b, o + k * 4 + 1, none⟩ = some (.slice vA x.val.length vc) := fun w' h => (hE.trans h).cell x1
            have q2 : ∀ w', Ext w3 w' → w'.cell? ⟨b, o + k * 4 + 2, none⟩ = some (.int .i64 x.ch) := fun w' h => (hE.trans h).cell x2
            have q3 : ∀ w', Ext w3 w' → w'.cell? ⟨b, o + k * 4 + 3, none⟩ = some (.int .i64 x.sz) := fun w' h => (hE.trans h).cell x3
            refine wp_region_rg Ext rel_ext (fun _ => True) [0, 1, 2, 3, 4, 5, 6, 7] (fun i => match i with
              | 6 => some fun _ => eqV (.bool false)
              | _ => none) (fun _ => none) (fun _ => false) (by kernel_rfl) (by kernel_rfl) (fun _ _ _ _ => trivial) trivial (fun W N hW _ hN => ?_)
            have hEW : Ext w3 W := hW
            repeat (first | (apply wpR_one; (case ho => (simp only [List.getElem?_toArray, List.getElem?_cons_succ, List.getElem?_cons_zero]; try exact rfl)); (case hw => rfl); (case hl => rfl); (case hsp => rfl); (case he => rfl); (case hv => (intro w' hw'; (try (have hw2 := Ext.trans hEW hw')); (try (have hw3 := Exc.trans hEW hw')); (try (have hw4 := Exk.trans hEW hw')); (try (have hw5 := Mrk.trans hEW hw')); go_simp; exact rfl)); (case hw0 => (first | exact Below.refl _ _ | exact Exc.of_ext (Below.refl _ _) | exact Exk.of_ext (Below.refl _ _) | exact Mrk.of_ext (Below.refl _ _))); simp only [Act.put, List.setIfInBounds_toArray, List.set_cons_succ, List.set_cons_zero]) | (apply wpR_early; (case ho => (simp only [List.getElem?_toArray, List.getElem?_cons_succ, List.getElem?_cons_zero]; try exact rfl)); (case hw => rfl); (case hl => rfl); (case hsp => rfl); (case he => rfl); (case hv => (intro w' hw'; (try have hw2 := Ext.trans hEW hw'); go_simp; exact rfl)); simp only [Act.put, List.setIfInBounds_toArray, List.set_cons_succ, List.set_cons_zero]) | (apply wpR_pass; (case ho => (simp only [List.getElem?_toArray, List.getElem?_cons_succ, List.getElem?_cons_zero]; try exact rfl)); (case hw => rfl); (case hl => rfl); simp only [Act.put, List.setIfInBounds_toArray, List.set_cons_succ, List.set_cons_zero]))
            refine wpR_new (by ((simp only [List.getElem?_toArray, List.getElem?_cons_succ, List.getElem?_cons_zero]; try exact rfl))) _ rfl rfl rfl (fun V v => eqV.lasts _ v) (fun V V' h => rfl) (fun w' hw' hK => ?_) (fun u hu => ?_)
            · clear hK
              have hX := hE.trans (hEW.trans hw')
              unfold opAt; go_simp; refine upAt_enter ?_
              refine (chVal_any (hv.ext hX) ⟨kA, kc, vA, vc, rfl, xk.ext hX, xv.ext hX⟩).mono ?_
              rintro e w9 ⟨rfl, hE9⟩
              rw [HV.out]
              exact ⟨_, rfl, hE9, rfl⟩
            obtain rfl : u = .bool false := hu.choose_spec.2.2
            clear hu
            simp only [Act.put, List.setIfInBounds_toArray, List.set_cons_succ, List.set_cons_zero]
            repeat (first | (apply wpR_one; (case ho => (simp only [List.getElem?_toArray, List.getElem?_cons_succ, List.getElem?_cons_zero]; try exact rfl)); (case hw => rfl); (case hl => rfl); (case hsp => rfl); (case he => rfl); (case hv => (intro w' hw'; (try (have hw2 := Ext.trans hEW hw')); (try (have hw3 := Exc.trans hEW hw')); (try (have hw4 := Exk.trans hEW hw')); (try (have hw5 := Mrk.trans hEW hw')); go_simp; exact rfl)); (case hw0 => (first | exact Below.refl _ _ | exact Exc.of_ext (Below.refl _ _) | exact Exk.of_ext (Below.refl _ _) | exact Mrk.of_ext (Below.refl _ _))); simp only [Act.put, List.setIfInBounds_toArray, List.set_cons_succ, List.set_cons_zero]) | (apply wpR_early; (case ho => (simp only [List.getElem?_toArray, List.getElem?_cons_succ, List.getElem?_cons_zero]; try exact rfl)); (case hw => rfl); (case hl => rfl); (case hsp => rfl); (case he => rfl); (case hv => (intro w' hw'; (try have hw2 := Ext.trans hEW hw'); go_simp; exact rfl)); simp only [Act.put, List.setIfInBounds_toArray, List.set_cons_succ, List.set_cons_zero]) | (apply wpR_pass; (case ho => (simp only [List.getElem?_toArray, List.getElem?_cons_succ, List.getElem?_cons_zero]; try exact rfl)); (case hw => rfl); (case hl => rfl); simp only [Act.put, List.setIfInBounds_toArray, List.set_cons_succ, List.set_cons_zero]))
            apply wpR_nil
            apply hN
            intro w4 hE' hK hF
            replace HP := Lib.hid ((hEW.trans hE').blk HP.out)
            replace hE := hE.trans (hEW.trans hE')
            clear hK hF hN hEW hE' hW e0 e1 e2 e3 e4 q0 q1 q2 q3
            go_wp2
            go_ret
            exact ⟨_, rfl, zero_iff (by decide) (HNK.out (fun h => by have h1 := HV.out; rw [h.2.2.1] at h1; cases h1)), hE⟩
          have HV := Lib.hid hz
          clear hz
          go_wp2_with fail
          have e0 : ∀ w', Ext w3 w' → w'.cell? ⟨w.heap.size, 0, none⟩ = some (.int .i64 p.kind) := fun w' h => cell_of_row _ _ _ _ _ _ (h.blk HP.out)
          have e1 : ∀ w', Ext w3 w' → w'.cell? ⟨w.heap.size, 1, none⟩ = some (.int .i64 p.level) := fun w' h => cell_of_row _ _ _ _ _ _ (h.blk HP.out)
          have e2 : ∀ w', Ext w3 w' → w'.cell? ⟨w.heap.size, 2, none⟩ = some (.slice (some ⟨b, o, none⟩) p.items.length ic) := fun w' h => cell_of_row _ _ _ _ _ _ (h.blk HP.out)
          have e3 : ∀ w', Ext w3 w' → w'.cell? ⟨w.heap.size, 3, none⟩ = some (.slice dA p.data.length dc) := fun w' h => cell_of_row _ _ _ _ _ _ (h.blk HP.out)
          have e4 : ∀ w', Ext w3 w' → w'.cell? ⟨w.heap.size, 4, none⟩ = some (.int .i64 p.next) := fun w' h => cell_of_row _ _ _ _ _ _ (h.blk HP.out)
          have q0 : ∀ w', Ext w3 w' → w'.cell? ⟨b, o + k * 4, none⟩ = some (.slice kA x.key.length kc) := fun w' h => (hE.trans h).cell x0
          have q1 : ∀ w', Ext w3 w' → w'.cell? ⟨b, o + k * 4 + 1, none⟩ = some (.slice vA x.val.length vc) := fun w' h => (hE.trans h).cell x1
          have q2 : ∀ w', Ext w3 w' → w'.cell? ⟨b, o + k * 4 + 2, none⟩ = some (.int .i64 x.ch) := fun w' h => (hE.trans h).cell x2
          have q3 : ∀ w', Ext w3 w' → w'.cell? ⟨b, o + k * 4 + 3, none⟩ = some (.int .i64 x.sz) := fun w' h => (hE.trans h).cell x3
          refine wp_region_rg Ext rel_ext (fun _ => True) [0, 1, 2, 3, 4, 5, 6, 7] (fun i => match i with
            | 6 => some fun _ => eqV (.bool true)
            | _ => none) (fun _ => none) (fun _ => false) (by kernel_rfl) (by kernel_rfl) (fun _ _ _ _ => trivial) trivial (fun W N hW _ hN => ?_)
          have hEW : Ext w3 W := hW
          repeat (first | (apply wpR_one; (case ho => (simp only [List.getElem?_toArray, List.getElem?_cons_succ, List.getElem?_cons_zero]; try exact rfl)); (case hw => rfl); (case hl => rfl); (case hsp => rfl); (case he => rfl); (case hv => (intro w' hw'; (try (have hw2 := Ext.trans hEW hw')); (try (have hw3 := Exc.trans hEW hw')); (try (have hw4 := Exk.trans hEW hw')); (try (have hw5 := Mrk.trans hEW hw')); go_simp; exact rfl)); (case hw0 => (first | exact Below.refl _ _ | exact Exc.of_ext (Below.refl _ _) | exact Exk.of_ext (Below.refl _ _) | exact Mrk.of_ext (Below.refl _ _))); simp only [Act.put, List.setIfInBounds_toArray, List.set_cons_succ, List.set_cons_zero]) | (apply wpR_early; (case ho => (simp only [List.getElem?_toArray, List.getElem?_cons_succ, List.getElem?_cons_zero]; try exact rfl)); (case hw => rfl); (case hl => rfl); (case hsp => rfl); (case he => rfl); (case hv => (intro w' hw'; (try have hw2 := Ext.trans hEW hw'); go_simp; exact rfl)); simp only [Act.put, List.setIfInBounds_toArray, List.set_cons_succ, List.set_cons_zero]) | (apply wpR_pass; (case ho => (simp only [List.getElem?_toArray, List.getElem?_cons_succ, List.getElem?_cons_zero]; try exact rfl)); (case hw => rfl); (case hl => rfl); simp only [Act.put, List.setIfInBounds_toArray, List.set_cons_succ, List.set_cons_zero]))
          refine wpR_new (by ((simp only [List.getElem?_toArray, List.getElem?_cons_succ, List.getElem?_cons_zero]; try exact rfl))) _ rfl rfl rfl (fun V v => eqV.lasts _ v) (fun V V' h => rfl) (fun w' hw' hK => ?_) (fun u hu => ?_)
          · clear hK
            have hX := hE.trans (hEW.trans hw')
            unfold opAt; go_simp; refine upAt_enter ?_
            refine (chVal_any (hv.ext hX) ⟨kA, kc, vA, vc, rfl, xk.ext hX, xv.ext hX⟩).mono ?_
            rintro e w9 ⟨rfl, hE9⟩
            rw [HV.out]
            exact ⟨_, rfl, hE9, rfl⟩
          obtain rfl : u = .bool true := hu.choose_spec.2.2
          clear hu
          simp only [Act.put, List.setIfInBounds_toArray, List.set_cons_succ, List.set_cons_zero]
          repeat (first | (apply wpR_one; (case ho => (simp only [List.getElem?_toArray, List.getElem?_cons_succ, List.getElem?_cons_zero]; try exact rfl)); (case hw => rfl); (case hl => rfl); (case hsp => rfl); (case he => rfl); (case hv => (intro w' hw'; (try (have hw2 := Ext.trans hEW hw')); (try (have hw3 := Exc.trans hEW hw')); (try (have hw4 := Exk.trans hEW hw')); (try (have hw5 := Mrk.trans hEW hw')); go_simp; exact rfl)); (case hw0 => (first | exact Below.refl _ _ | exact Exc.of_ext (Below.refl _ _) | exact Exk.of_ext (Below.refl _ _) | exact Mrk.of_ext (Below.refl _ _))); simp only [Act.put, List.setIfInBounds_toArray, List.set_cons_succ, List.set_cons_zero]) | (apply wpR_early; (case ho => (simp only [List.getElem?_toArray, List.getElem?_cons_succ, List.getElem?_cons_zero]; try exact rfl)); (case hw => rfl); (case hl => rfl); (case hsp => rfl); (case he => rfl); (case hv => (intro w' hw'; (try have hw2 := Ext.trans hEW hw'); go_simp; exact rfl)); simp only [Act.put, List.setIfInBounds_toArray, List.set_cons_succ, List.set_cons_zero]) | (apply wpR_pass; (case ho => (simp only [List.getElem?_toArray, List.getElem?_cons_succ, List.getElem?_cons_zero]; try exact rfl)); (case hw => rfl); (case hl => rfl); simp only [Act.put, List.setIfInBounds_toArray, List.set_cons_succ, List.set_cons_zero]))
          apply wpR_nil
          apply hN
          intro w4 hE' hK hF
          replace HP := Lib.hid ((hEW.trans hE').blk HP.out)
          replace hE := hE.trans (hEW.trans hE')
          clear hK hF hN hEW hE' hW e0 e1 e2 e3 e4 q0 q1 q2 q3
          cases hz : chChB p.kind x
          · have HC := Lib.hid hz
            clear hz
            go_wp2_with fail
            have e0 : ∀ w', Ext w4 w' → w'.cell? ⟨w.heap.size, 0, none⟩ = some (.int .i64 p.kind) := fun w' h => cell_of_row _ _ _ _ _ _ (h.blk HP.out)
            have e1 : ∀ w', Ext w4 w' → w'.cell? ⟨w.heap.size, 1, none⟩ = some (.int .i64 p.level) := fun w' h => cell_of_row _ _ _ _ _ _ (h.blk HP.out)
            have e2 : ∀ w', Ext w4 w' → w'.cell? ⟨w.heap.size, 2, none⟩ = some (.slice (some ⟨b, o, none⟩) p.items.length ic) := fun w' h => cell_of_row _ _ _ _ _ _ (h.blk HP.out)
            have e3 : ∀ w', Ext w4 w' → w'.cell? ⟨w.heap.size, 3, none⟩ = some (.slice dA p.data.length dc) := fun w' h => cell_of_row _ _ _ _ _ _ (h.blk HP.out)
            have e4 : ∀ w', Ext w4 w' → w'.cell? ⟨w.heap.size, 4, none⟩ = some (.int .i64 p.next) := fun w' h => cell_of_row _ _ _ _ _ _ (h.blk HP.out)
            have q0 : ∀ w', Ext w4 w' → w'.cell? ⟨b, o + k * 4, none⟩ = some (.slice kA x.key.length kc) := fun w' h => (hE.trans h).cell x0
            have q1 : ∀ w', Ext w4 w' → w'.cell? ⟨b, o + k * 4 + 1, none⟩ = some (.slice vA x.val.length vc) := fun w' h => (hE.trans h).cell x1
            have q2 : ∀ w', Ext w4 w' → w'.cell? ⟨b, o + k * 4 + 2, none⟩ = some (.int .i64 x.ch) := fun w' h => (hE.trans h).cell x2
            have q3 : ∀ w', Ext w4 w' → w'.cell? ⟨b, o + k * 4 + 3, none⟩ = some (.int .i64 x.sz) := fun w' h => (hE.trans h).cell x3
            refine wp_region_rg Ext rel_ext (fun _ => True) [0, 1, 2, 3, 4, 5, 6, 7] (fun i => match i with
              | 6 => some fun _ => eqV (.bool false)
              | _ => none) (fun _ => none) (fun _ => false) (by kernel_rfl) (by kernel_rfl) (fun _ _ _ _ => trivial) trivial (fun W N hW _ hN => ?_)
            have hEW : Ext w4 W := hW
            repeat (first | (apply wpR_one; (case ho => (simp only [List.getElem?_toArray, List.getElem?_cons_succ, List.getElem?_cons_zero]; try exact rfl)); (case hw => rfl); (case hl => rfl); (case hsp => rfl); (case he => rfl); (case hv => (intro w' hw'; (try (have hw2 := Ext.trans hEW hw')); (try (have hw3 := Exc.trans hEW hw')); (try (have hw4 := Exk.trans hEW hw')); (try (have hw5 := Mrk.trans hEW hw')); go_simp; exact rfl)); (case hw0 => (first | exact Below.refl _ _ | exact Exc.of_ext (Below.refl _ _) | exact Exk.of_ext (Below.refl _ _) | exact Mrk.of_ext (Below.refl _ _))); simp only [Act.put, List.setIfInBounds_toArray, List.set_cons_succ, List.set_cons_zero]) | (apply wpR_early; (case ho => (simp only [List.getElem?_toArray, List.getElem?_cons_succ, List.getElem?_cons_zero]; try exact rfl)); (case hw => rfl); (case hl => rfl); (case hsp => rfl); (case he => rfl); (case hv => (intro w' hw'; (try have hw2 := Ext.trans hEW hw'); go_simp; exact rfl)); simp only [Act.put, List.setIfInBounds_toArray, List.set_cons_succ, List.set_cons_zero]) | (apply wpR_pass; (case ho => (simp only [List.getElem?_toArray, List.getElem?_cons_succ, List.getElem?_cons_zero]; try exact rfl)); (case hw => rfl); (case hl => rfl); simp only [Act.put, List.setIfInBounds_toArray, List.set_cons_succ, List.set_cons_zero]))
            refine wpR_new (by ((simp only [List.getElem?_toArray, List.getElem?_cons_succ, List.getElem?_cons_zero]; try exact rfl))) _ rfl rfl rfl (fun V v => eqV.lasts _ v) (fun V V' h => rfl) (fun w' hw' hK => ?_) (fun u hu => ?_)
            · clear hK
              have hX := hE.trans (hEW.trans hw')
              unfold opAt; go_simp; refine upAt_enter ?_
              refine (chCh_any (hv.ext hX) ⟨kA, kc, vA, vc, rfl, xk.ext hX, xv.ext hX⟩).mono ?_
              rintro e w9 ⟨rfl, hE9⟩
              rw [HC.out]
              exact ⟨_, rfl, hE9, rfl⟩
            obtain rfl : u = .bool false := hu.choose_spec.2.2
            clear hu
            simp only [Act.put, List.setIfInBounds_toArray, List.set_cons_succ, List.set_cons_zero]
            repeat (first | (apply wpR_one; (case ho => (simp only [List.getElem?_toArray, List.getElem?_cons_succ, List.getElem?_cons_zero]; try exact rfl)); (case hw => rfl); (case hl => rfl); (case hsp => rfl); (case he => rfl); (case hv => (intro w' hw'; (try (have hw2 := Ext.trans hEW hw')); (try (have hw3 := Exc.trans hEW hw')); (try (have hw4 := Exk.trans hEW hw')); (try (have hw5 := Mrk.trans hEW hw')); go_simp; exact rfl)); (case hw0 => (first | exact Below.refl _ _ | exact Exc.of_ext (Below.refl _ _) | exact Exk.of_ext (Below.refl _ _) | exact Mrk.of_ext (Below.refl _ _))); simp only [Act.put, List.setIfInBounds_toArray, List.set_cons_succ, List.set_cons_zero]) | (apply wpR_early; (case ho => (simp only [List.getElem?_toArray, List.getElem?_cons_succ, List.getElem?_cons_zero]; try exact rfl)); (case hw => rfl); (case hl => rfl); (case hsp => rfl); (case he => rfl); (case hv => (intro w' hw'; (try have hw2 := Ext.trans hEW hw'); go_simp; exact rfl)); simp only [Act.put, List.setIfInBounds_toArray, List.set_cons_succ, List.set_cons_zero]) | (apply wpR_pass; (case ho => (simp only [List.getElem?_toArray, List.getElem?_cons_succ, List.getElem?_cons_zero]; try exact rfl)); (case hw => rfl); (case hl => rfl); simp only [Act.put, List.setIfInBounds_toArray, List.set_cons_succ, List.set_cons_zero]))
            apply wpR_nil
            apply hN
            intro w5 hE' hK hF
            replace HP := Lib.hid ((hEW.trans hE').blk HP.out)
            replace hE := hE.trans (hEW.trans hE')
            clear hK hF hN hEW hE' hW e0 e1 e2 e3 e4 q0 q1 q2 q3
            go_wp2
            go_ret
            exact ⟨_, rfl, zero_iff (by decide) (HNK.out (fun h => by have h1 := HC.out; rw [h.2.2.2] at h1; cases h1)), hE⟩
          have HC := Lib.hid hz
          clear hz
          go_wp2_with fail
          have e0 : ∀ w', Ext w4 w' → w'.cell? ⟨w.heap.size, 0, none⟩ = some (.int .i64 p.kind) := fun w' h => cell_of_row _ _ _ _ _ _ (h.blk HP.out)
          have e1 : ∀ w', Ext w4 w' → w'.cell? ⟨w.heap.size, 1, none⟩ = some (.int .i64 p.level) := fun w' h => cell_of_row _ _ _ _ _ _ (h.blk HP.out)
          have e2 : ∀ w', Ext w4 w' → w'.cell? ⟨w.heap.size, 2, none⟩ = some (.slice (some ⟨b, o, none⟩) p.items.length ic) := fun w' h => cell_of_row _ _ _ _ _ _ (h.blk HP.out)
          have e3 : ∀ w', Ext w4 w' → w'.cell? ⟨w.heap.size, 3, none⟩ = some (.slice dA p.data.length dc) := fun w' h => cell_of_row _ _ _ _ _ _ (h.blk HP.out)
          have e4 : ∀ w', Ext w4 w' → w'.cell? ⟨w.heap.size, 4, none⟩ = some (.int .i64 p.next) := fun w' h => cell_of_row _ _ _ _ _ _ (h.blk HP.out)
          have q0 : ∀ w', Ext w4 w' → w'.cell? ⟨b, o + k * 4, none⟩ = some (.slice kA x.key.length kc) := fun w' h => (hE.trans h).cell x0
          have q1 : ∀ w', Ext w4 w' → w'.cell? ⟨b, o + k * 4 + 1, none⟩ = some (.slice vA x.val.length vc) := fun w' h => (hE.trans h).cell x1
          have q2 : ∀ w', Ext w4 w' → w'.cell? ⟨b, o + k * 4 + 2, none⟩ = some (.int .i64 x.ch) := fun w' h => (hE.trans h).cell x2
          have q3 : ∀ w', Ext w4 w' → w'.cell? ⟨b, o + k * 4 + 3, none⟩ = some (.int .i64 x.sz) := fun w' h => (hE.trans h).cell x3
          refine wp_region_rg Ext rel_ext (fun _ => True) [0, 1, 2, 3, 4, 5, 6, 7] (fun i => match i with
            | 6 => some fun _ => eqV (.bool true)
            | _ => none) (fun _ => none) (fun _ => false) (by kernel_rfl) (by kernel_rfl) (fun _ _ _ _ => trivial) trivial (fun W N hW _ hN => ?_)
          have hEW : Ext w4 W := hW
          repeat (first | (apply wpR_one; (case ho => (simp only [List.getElem?_toArray, List.getElem?_cons_succ, List.getElem?_cons_zero]; try exact rfl)); (case hw => rfl); (case hl => rfl); (case hsp => rfl); (case he => rfl); (case hv => (intro w' hw'; (try (have hw2 := Ext.trans hEW hw')); (try (have hw3 := Exc.trans hEW hw')); (try (have hw4 := Exk.trans hEW hw')); (try (have hw5 := Mrk.trans hEW hw')); go_simp; exact rfl)); (case hw0 => (first | exact Below.refl _ _ | exact Exc.of_ext (Below.refl _ _) | exact Exk.of_ext (Below.refl _ _) | exact Mrk.of_ext (Below.refl _ _))); simp only [Act.put, List.setIfInBounds_toArray, List.set_cons_succ, List.set_cons_zero]) | (apply wpR_early; (case ho => (simp only [List.getElem?_toArray, List.getElem?_cons_succ, List.getElem?_cons_zero]; try exact rfl)); (case hw => rfl); (case hl => rfl); (case hsp => rfl); (case he => rfl); (case hv => (intro w' hw'; (try have hw2 := Ext.trans hEW hw'); go_simp; exact rfl)); simp only [Act.put, List.setIfInBounds_toArray, List.set_cons_succ, List.set_cons_zero]) | (apply wpR_pass; (case ho => (simp only [List.getElem?_toArray, List.getElem?_cons_succ, List.getElem?_cons_zero]; try exact rfl)); (case hw => rfl); (case hl => rfl); simp only [Act.put, List.setIfInBounds_toArray, List.set_cons_succ, List.set_cons_zero]))
          refine wpR_new (by ((simp only [List.getElem?_toArray, List.getElem?_cons_succ, List.getElem?_cons_zero]; try exact rfl))) _ rfl rfl rfl (fun V v => eqV.lasts _ v) (fun V V' h => rfl) (fun w' hw' hK => ?_) (fun u hu => ?_)
          · clear hK
            have hX := hE.trans (hEW.trans hw')
            unfold opAt; go_simp; refine upAt_enter ?_
            refine (chCh_any (hv.ext hX) ⟨kA, kc, vA, vc, rfl, xk.ext hX, xv.ext hX⟩).mono ?_
            rintro e w9 ⟨rfl, hE9⟩
            rw [HC.out]
            exact ⟨_, rfl, hE9, rfl⟩
          obtain rfl : u = .bool true := hu.choose_spec.2.2
          clear hu
          simp only [Act.put, List.setIfInBounds_toArray, List.set_cons_succ, List.set_cons_zero]
          repeat (first | (apply wpR_one; (case ho => (simp only [List.getElem?_toArray, List.getElem?_cons_succ, List.getElem?_cons_zero]; try exact rfl)); (case hw => rfl); (case hl => rfl); (case hsp => rfl); (case he => rfl); (case hv => (intro w' hw'; (try (have hw2 := Ext.trans hEW hw')); (try (have hw3 := Exc.trans hEW hw')); (try (have hw4 := Exk.trans hEW hw')); (try (have hw5 := Mrk.trans hEW hw')); go_simp; exact rfl)); (case hw0 => (first | exact Below.refl _ _ | exact Exc.of_ext (Below.refl _ _) | exact Exk.of_ext (Below.refl _ _) | exact Mrk.of_ext (Below.refl _ _))); simp only [Act.put, List.setIfInBounds_toArray, List.set_cons_succ, List.set_cons_zero]) | (apply wpR_early; (case ho => (simp only [List.getElem?_toArray, List.getElem?_cons_succ, List.getElem?_cons_zero]; try exact rfl)); (case hw => rfl); (case hl => rfl); (case hsp => rfl); (case he => rfl); (case hv => (intro w' hw'; (try have hw2 := Ext.trans hEW hw'); go_simp; exact rfl)); simp only [Act.put, List.setIfInBounds_toArray, List.set_cons_succ, List.set_cons_zero]) | (apply wpR_pass; (case ho => (simp only [List.getElem?_toArray, List.getElem?_cons_succ, List.getElem?_cons_zero]; try exact rfl)); (case hw => rfl); (case hl => rfl); simp only [Act.put, List.setIfInBounds_toArray, List.set_cons_succ, List.set_cons_zero]))
          apply wpR_nil
          apply hN
          intro w5 hE' hK hF
          replace HP := Lib.hid ((hEW.trans hE').blk HP.out)
          replace hE := hE.trans (hEW.trans hE')
          clear hK hF hN hEW hE' hW e0 e1 e2 e3 e4 q0 q1 q2 q3
          go_wp2
          go_roundw
          case rel => exact ⟨k + 1, by omega, by rw [Int.natCast_succ], Lib.hid (allIt_succ HA.out (chIt_of HX.out HZ1.out HO.out HV.out HC.out)), hE, HP.out⟩
          case measure => simp [intOf]; omega
      · obtain rfl : k = p.items.length := by omega
        clear hlt hkl
        have p0 := cell_of_row wr w.heap.size 0 _ _ _ HP.out
        have p1 := cell_of_row wr w.heap.size 1 _ _ _ HP.out
        have p2 := cell_of_row wr w.heap.size 2 _ _ _ HP.out
        have p3 := cell_of_row wr w.heap.size 3 _ _ _ HP.out
        have p4 := cell_of_row wr w.heap.size 4 _ _ _ HP.out
        simp only [List.getElem?_toArray, List.getElem?_cons_zero, List.getElem?_cons_succ] at p0 p1 p2 p3 p4
        cases h3 : p.kind == 3
        · have HOK := Lib.hid (show OkP p from ⟨HK.out, HF.out, HA.out, fun h => by simp [h] at h3⟩)
          clear hil
          go_wp2
          go_ret
          exact ⟨_, rfl, ⟨fun _ => HOK.out, fun _ => rfl⟩, hE⟩
        have H3 := Lib.hid h3
        cases hn : p.next != 0
        · have HOK := Lib.hid (show OkP p from ⟨HK.out, HF.out, HA.out, fun _ h => by simp [h] at hn⟩)
          go_wp2
          go_ret
          exact ⟨_, rfl, ⟨fun _ => HOK.out, fun _ => rfl⟩, hE⟩
        have HNX := Lib.hid hn
        go_wp2_with fail
        refine isPage_any.mono ?_
        rintro e w2 ⟨rfl, hE2⟩
        replace hE := hE.trans hE2
        clear hE2 p0 p1 p2 p3 p4
        cases hz : isPageB p.next
        · have HN := Lib.hid (show ¬ OkP p from fun ok => by
            have h5 := ok.next (by simpa using H3.out) (by simpa using HNX.out)
            rw [h5] at hz
            cases hz)
          clear hz
          go_wp2
          go_ret
          exact ⟨_, rfl, zero_iff (by decide) HN.out, hE⟩
        · have HOK := Lib.hid (show OkP p from ⟨HK.out, HF.out, HA.out, fun _ _ => hz⟩)
          clear hz
          go_wp2
          go_ret
          exact ⟨_, rfl, ⟨fun _ => HOK.out, fun _ => rfl⟩, hE⟩
end Go.Proofs.Ytjjbckdiojleeaa
