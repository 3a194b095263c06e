/- The walk of NodeFinds. No condition but that what comes in lies in memory. -/
import Derived.Test.YtjjbckdiojleeaaNworks
import Derived.Test.YtjjbckdiojleeaaPgargs
import Derived.Test.YtjjbckdiojleeaaSparepw
import Derived.Test.YtjjbckdiojleeaaKeptpg
namespace Go.Proofs.Ytjjbckdiojleeaa
set_option linter.unusedVariables false
open Go.RowKit Go.Proofs
def eqV (u v : Value) (_ : World) : Prop := v = u
theorem eqV.lasts {R : World → World → Prop} (u v : Value) : Lasts R (eqV u v) := fun _ _ h _ => h
set_option maxRecDepth 100000 in
set_option maxHeartbeats 8000000 in
theorem finds_any {v : Value} {p : Pg} {A : Option Addr} {c : Nat} {ks : List (List UInt8)} {w : World} (hv : PgV w v p) (hk : Kys w A c ks) :
    Calls Try.prog 4 #[v, .slice A ks.length c] w fun e w' => e = .returned (.bool true) ∧ Ext w w' := by
  obtain ⟨iA, ic, dA, dc, rfl, hi, hd⟩ := hv.ex
  have hsm := hv.small
  have hle := hk.le
  have hcap := hk.cap
  clear hi hd
  by_cases hc : (ks.length : Int) ≤ 200
  · have HM := Lib.hid (show ks.length = ks.length from rfl)
    have hk2 := hk
    have hm200 : ks.length ≤ 200 := by omega
    have hle2 : ks.length ≤ c := by omega
    
    clear hk hle
    go_enter Try.func4, Try.ntmps4
    go_wp2_with fail
    clear hc
    refine (sparePage_any (hv.ext (ext_alloc _ _))).mono ?_
    rintro e w1 ⟨v, rfl, hS, hE1⟩
    obtain ⟨xg, xps, xd, rfl, _⟩ := hS.ex
    have hP := hE1.blk (heap_alloc_new w (.cells #[.int .i64 p.kind, .int .i64 p.level, .slice iA p.items.length ic, .slice dA p.data.length dc, .int .i64 p.next] 26))
    have hE := (ext_alloc w (.cells #[.int .i64 p.kind, .int .i64 p.level, .slice iA p.items.length ic, .slice dA p.data.length dc, .int .i64 p.next] 26)).trans hE1
    clear hE1
    go_wp2
    have hX := heap_alloc_new w1 (.cells #[.int .i64 p.kind, .int .i64 p.level, .slice (some ⟨xg, 0, none⟩) p.items.length (p.items.length + 2), .slice (some ⟨xd, 0, none⟩) p.data.length (p.data.length + 64), .int .i64 p.next] 26)
    have hP1 := (ext_alloc w1 (.cells #[.int .i64 p.kind, .int .i64 p.level, .slice (some ⟨xg, 0, none⟩) p.items.length (p.items.length + 2), .slice (some ⟨xd, 0, none⟩) p.data.length (p.data.length + 64), .int .i64 p.next] 26)).blk hP
    have hE1 := hE.trans (ext_alloc w1 (.cells #[.int .i64 p.kind, .int .i64 p.level, .slice (some ⟨xg, 0, none⟩) p.items.length (p.items.length + 2), .slice (some ⟨xd, 0, none⟩) p.data.length (p.data.length + 64), .int .i64 p.next] 26))
    have hS1 := hS.ext (ext_alloc w1 (.cells #[.int .i64 p.kind, .int .i64 p.level, .slice (some ⟨xg, 0, none⟩) p.items.length (p.items.length + 2), .slice (some ⟨xd, 0, none⟩) p.data.length (p.data.length + 64), .int .i64 p.next] 26))
    obtain ⟨b1, hb1⟩ : ∃ b, w1.heap.size = b := ⟨_, rfl⟩
    rw [hb1] at hX ⊢
    obtain ⟨b0, hb0⟩ : ∃ b, w.heap.size = b := ⟨_, rfl⟩
    rw [hb0] at hP1 ⊢
    clear hb1 hb0 hP hE hS
    go_loopw [6] (fun i wr => ∃ k : Nat, k ≤ ks.length ∧ i = .int .i64 k ∧ Ext w wr ∧ wr.heap[b0]? = some (.cells #[.int .i64 p.kind, .int .i64 p.level, .slice iA p.items.length ic, .slice dA p.data.length dc, .int .i64 p.next] 26) ∧ wr.heap[b1]? = some (.cells #[.int .i64 p.kind, .int .i64 p.level, .slice (some ⟨xg, 0, none⟩) p.items.length (p.items.length + 2), .slice (some ⟨xd, 0, none⟩) p.data.length (p.data.length + 64), .int .i64 p.next] 26) ∧ SpPg wr (.agg #[.int .i64 p.kind, .int .i64 p.level, .slice (some ⟨xg, 0, none⟩) p.items.length (p.items.length + 2), .slice (some ⟨xd, 0, none⟩) p.data.length (p.data.length + 64), .int .i64 p.next]) p) (fun i _ => ks.length - (intOf i).toNat)
    case atStart => exact ⟨0, Nat.zero_le _, rfl, hE1, hP1, hX, hS1⟩
    case round =>
      clear hE1 hP1 hX hS1
      obtain ⟨k, hkm, rfl, hE, hP, hX, hS⟩ := hrel
      by_cases hlt : k < ks.length
      rotate_left
      · obtain rfl : k = ks.length := by omega
        clear hlt hkm
        have HP := Lib.hid hP
        have HX := Lib.hid hX
        have p0 := cell_of_row _ b0 0 _ _ _ HP.out
        have p1 := cell_of_row _ b0 1 _ _ _ HP.out
        have p2 := cell_of_row _ b0 2 _ _ _ HP.out
        have p3 := cell_of_row _ b0 3 _ _ _ HP.out
        have p4 := cell_of_row _ b0 4 _ _ _ HP.out
        simp at p0 p1 p2 p3 p4
        have x0 := cell_of_row _ b1 0 _ _ _ HX.out
        have x1 := cell_of_row _ b1 1 _ _ _ HX.out
        have x2 := cell_of_row _ b1 2 _ _ _ HX.out
        have x3 := cell_of_row _ b1 3 _ _ _ HX.out
        have x4 := cell_of_row _ b1 4 _ _ _ HX.out
        simp at x0 x1 x2 x3 x4
        clear hP hX
        go_wp2_with fail
        refine (keptPage_any hS (hv.ext hE)).mono ?_
        rintro e w2 ⟨rfl, hE2⟩
        go_wp2_with fail
        refine works_any.mono ?_
        rintro e w3 ⟨rfl, hE3⟩
        have hEE := hE.trans (hE2.trans hE3)
        clear hE hE2 hE3 p0 p1 p2 p3 p4 x0 x1 x2 x3 x4
        go_wp2
        go_ret
        exact ⟨rfl, hEE⟩
      · obtain ⟨kb, ko, rfl, hrd⟩ := hk2.rd (by omega)
        obtain ⟨kA, kc, hkc, hks⟩ := hrd k _ (List.getElem?_eq_getElem (by exact hlt))
        generalize ks[k]'(by exact hlt) = key at hkc hks
        have i1 : (k : Int) < (ks.length : Nat) := by omega
        have i2 : (0 : Int) ≤ k := by omega
        have hkc2 := hE.cell hkc
        have hkl := hks.len
        clear hkm hlt hkc hrd
        go_wp2_with fail
        refine (spare_any (hks.ext hE)).mono ?_
        rintro e w2 ⟨sg, rfl, _, hSd, hE2⟩
        have HP := Lib.hid (hE2.blk hP)
        have HX := Lib.hid (hE2.blk hX)
        have hS2 := hS.ext hE2
        have hEa := hE.trans hE2
        have hkc3 := hE2.cell hkc2
        have p0 := cell_of_row _ b0 0 _ _ _ HP.out
        have p1 := cell_of_row _ b0 1 _ _ _ HP.out
        have p2 := cell_of_row _ b0 2 _ _ _ HP.out
        have p3 := cell_of_row _ b0 3 _ _ _ HP.out
        have p4 := cell_of_row _ b0 4 _ _ _ HP.out
        simp at p0 p1 p2 p3 p4
        have x0 := cell_of_row _ b1 0 _ _ _ HX.out
        have x1 := cell_of_row _ b1 1 _ _ _ HX.out
        have x2 := cell_of_row _ b1 2 _ _ _ HX.out
        have x3 := cell_of_row _ b1 3 _ _ _ HX.out
        have x4 := cell_of_row _ b1 4 _ _ _ HX.out
        simp at x0 x1 x2 x3 x4
        clear hP hX hS hE2 hkc2
        go_wp2_with fail
        have hSs := hSd.sl hkl
        refine (nsearch_any (k := key) (hS2.pgv hsm) hSs rfl).mono ?_
        rintro e w3 ⟨rfl, hE3⟩
        clear p0 p1 p2 p3 p4 x0 x1 x2 x3 x4
        have hkc4 := hE3.cell hkc3
        have HP3 := Lib.hid (hE3.blk HP.out)
        have HX3 := Lib.hid (hE3.blk HX.out)
        have hS3 := hS2.ext hE3
        have hSd3 := hSd.ext hE3
        have hEb := hEa.trans hE3
        clear HP HX hS2 hEa hkc3 hSd hSs hE3
        go_wp2_with fail
        have hkr : ∀ w', Ext w3 w' → w'.cell? ⟨kb, ko + k, none⟩ = some (.slice kA key.length kc) := fun w' h => h.cell hkc4
        have p0 : ∀ w', Ext w3 w' → w'.cell? ⟨b0, 0, none⟩ = some (.int .i64 p.kind) := fun w' h => cell_of_row _ _ _ _ _ _ (h.blk HP3.out)
        have p1 : ∀ w', Ext w3 w' → w'.cell? ⟨b0, 1, none⟩ = some (.int .i64 p.level) := fun w' h => cell_of_row _ _ _ _ _ _ (h.blk HP3.out)
        have p2 : ∀ w', Ext w3 w' → w'.cell? ⟨b0, 2, none⟩ = some (.slice iA p.items.length ic) := fun w' h => cell_of_row _ _ _ _ _ _ (h.blk HP3.out)
        have p3 : ∀ w', Ext w3 w' → w'.cell? ⟨b0, 3, none⟩ = some (.slice dA p.data.length dc) := fun w' h => cell_of_row _ _ _ _ _ _ (h.blk HP3.out)
        have p4 : ∀ w', Ext w3 w' → w'.cell? ⟨b0, 4, none⟩ = some (.int .i64 p.next) := fun w' h => cell_of_row _ _ _ _ _ _ (h.blk HP3.out)
        have x0 : ∀ w', Ext w3 w' → w'.cell? ⟨b1, 0, none⟩ = some (.int .i64 p.kind) := fun w' h => cell_of_row _ _ _ _ _ _ (h.blk HX3.out)
        have x1 : ∀ w', Ext w3 w' → w'.cell? ⟨b1, 1, none⟩ = some (.int .i64 p.level) := fun w' h => cell_of_row _ _ _ _ _ _ (h.blk HX3.out)
        have x2 : ∀ w', Ext w3 w' → w'.cell? ⟨b1, 2, none⟩ = some (.slice (some ⟨xg, 0, none⟩) p.items.length (p.items.length + 2)) := fun w' h => cell_of_row _ _ _ _ _ _ (h.blk HX3.out)
        have x3 : ∀ w', Ext w3 w' → w'.cell? ⟨b1, 3, none⟩ = some (.slice (some ⟨xd, 0, none⟩) p.data.length (p.data.length + 64)) := fun w' h => cell_of_row _ _ _ _ _ _ (h.blk HX3.out)
        have x4 : ∀ w', Ext w3 w' → w'.cell? ⟨b1, 4, none⟩ = some (.int .i64 p.next) := fun w' h => cell_of_row _ _ _ _ _ _ (h.blk HX3.out)
        refine wp_region_rg Ext rel_ext (fun _ => True) [0, 1, 2, 3, 4, 5, 6, 7, 8, 9, 10] (fun i => match i with
          | 5 => some fun _ => eqV (.tuple #[.int .i64 (srchI p.items key : Nat), .bool (srchB p.items key)])
          | _ => none) (fun _ => none) (fun _ => false) (by kernel_rfl) (by kernel_rfl) (fun _ _ _ _ => trivial) trivial (fun W N hW _ hN => ?_)
        have hEW : Ext w3 W := hW
        repeat (first | (apply wpR_one; (case ho => (simp only [List.getElem?_toArray, List.getElem?_cons_succ, List.getElem?_cons_zero]; try exact rfl)); (case hw => rfl); (case hl => rfl); (case hsp => rfl); (case he => rfl); (case hv => (intro w' hw'; (try (have hw2 := Ext.trans hEW hw')); (try (have hw3 := Exc.trans hEW hw')); (try (have hw4 := Exk.trans hEW hw')); (try (have hw5 := Mrk.trans hEW hw')); go_simp; exact rfl)); (case hw0 => (first | exact Below.refl _ _ | exact Exc.of_ext (Below.refl _ _) | exact Exk.of_ext (Below.refl _ _) | exact Mrk.of_ext (Below.refl _ _))); simp only [Act.put, List.setIfInBounds_toArray, List.set_cons_succ, List.set_cons_zero]) | (apply wpR_early; (case ho => (simp only [List.getElem?_toArray, List.getElem?_cons_succ, List.getElem?_cons_zero]; try exact rfl)); (case hw => rfl); (case hl => rfl); (case hsp => rfl); (case he => rfl); (case hv => (intro w' hw'; (try have hw2 := Ext.trans hEW hw'); go_simp; exact rfl)); simp only [Act.put, List.setIfInBounds_toArray, List.set_cons_succ, List.set_cons_zero]) | (apply wpR_pass; (case ho => (simp only [List.getElem?_toArray, List.getElem?_cons_succ, List.getElem?_cons_zero]; try exact rfl)); (case hw => rfl); (case hl => rfl); simp only [Act.put, List.setIfInBounds_toArray, List.set_cons_succ, List.set_cons_zero]))
        refine wpR_new (by ((simp only [List.getElem?_toArray, List.getElem?_cons_succ, List.getElem?_cons_zero]; try exact rfl))) _ rfl rfl rfl (fun V v => eqV.lasts _ v) (fun V V' h => rfl) (fun w' hw' hK => ?_) (fun u hu => ?_)
        · clear hK
          have hX' := hEb.trans (hEW.trans hw')
          unfold opAt; go_simp; refine upAt_enter ?_
          refine (rsearch_any (hv.ext hX') (hks.ext hX') rfl).mono ?_
          rintro e w2 ⟨rfl, hE2⟩
          exact ⟨_, rfl, hE2, rfl⟩
        obtain rfl : u = .tuple #[.int .i64 (srchI p.items key : Nat), .bool (srchB p.items key)] := hu.choose_spec.2.2
        clear hu
        simp only [Act.put, List.setIfInBounds_toArray, List.set_cons_succ, List.set_cons_zero]
        repeat (first | (apply wpR_one; (case ho => (simp only [List.getElem?_toArray, List.getElem?_cons_succ, List.getElem?_cons_zero]; try exact rfl)); (case hw => rfl); (case hl => rfl); (case hsp => rfl); (case he => rfl); (case hv => (intro w' hw'; (try (have hw2 := Ext.trans hEW hw')); (try (have hw3 := Exc.trans hEW hw')); (try (have hw4 := Exk.trans hEW hw')); (try (have hw5 := Mrk.trans hEW hw')); go_simp; exact rfl)); (case hw0 => (first | exact Below.refl _ _ | exact Exc.of_ext (Below.refl _ _) | exact Exk.of_ext (Below.refl _ _) | exact Mrk.of_ext (Below.refl _ _))); simp only [Act.put, List.setIfInBounds_toArray, List.set_cons_succ, List.set_cons_zero]) | (apply wpR_early; (case ho => (simp only [List.getElem?_toArray, List.getElem?_cons_succ, List.getElem?_cons_zero]; try exact rfl)); (case hw => rfl); (case hl => rfl); (case hsp => rfl); (case he => rfl); (case hv => (intro w' hw'; (try have hw2 := Ext.trans hEW hw'); go_simp; exact rfl)); simp only [Act.put, List.setIfInBounds_toArray, List.set_cons_succ, List.set_cons_zero]) | (apply wpR_pass; (case ho => (simp only [List.getElem?_toArray, List.getElem?_cons_succ, List.getElem?_cons_zero]; try exact rfl)); (case hw => rfl); (case hl => rfl); simp only [Act.put, List.setIfInBounds_toArray, List.set_cons_succ, List.set_cons_zero]))
        apply wpR_nil
        apply hN
        intro w4 hE' hK hF
        have hE4 := hEW.trans hE'
        clear hK hF hN hEW hE' hW
        go_wp2_with fail
        replace hkr : ∀ w', Ext w4 w' → w'.cell? ⟨kb, ko + k, none⟩ = some (.slice kA key.length kc) := fun w' h => hkr w' (hE4.trans h)
        replace p0 : ∀ w', Ext w4 w' → w'.cell? ⟨b0, 0, none⟩ = some (.int .i64 p.kind) := fun w' h => p0 w' (hE4.trans h)
        replace p1 : ∀ w', Ext w4 w' → w'.cell? ⟨b0, 1, none⟩ = some (.int .i64 p.level) := fun w' h => p1 w' (hE4.trans h)
        replace p2 : ∀ w', Ext w4 w' → w'.cell? ⟨b0, 2, none⟩ = some (.slice iA p.items.length ic) := fun w' h => p2 w' (hE4.trans h)
        replace p3 : ∀ w', Ext w4 w' → w'.cell? ⟨b0, 3, none⟩ = some (.slice dA p.data.length dc) := fun w' h => p3 w' (hE4.trans h)
        replace p4 : ∀ w', Ext w4 w' → w'.cell? ⟨b0, 4, none⟩ = some (.int .i64 p.next) := fun w' h => p4 w' (hE4.trans h)
        replace x0 : ∀ w', Ext w4 w' → w'.cell? ⟨b1, 0, none⟩ = some (.int .i64 p.kind) := fun w' h => x0 w' (hE4.trans h)
        replace x1 : ∀ w', Ext w4 w' → w'.cell? ⟨b1, 1, none⟩ = some (.int .i64 p.level) := fun w' h => x1 w' (hE4.trans h)
        replace x2 : ∀ w', Ext w4 w' → w'.cell? ⟨b1, 2, none⟩ = some (.slice (some ⟨xg, 0, none⟩) p.items.length (p.items.length + 2)) := fun w' h => x2 w' (hE4.trans h)
        replace x3 : ∀ w', Ext w4 w' → w'.cell? ⟨b1, 3, none⟩ = some (.slice (some ⟨xd, 0, none⟩) p.data.length (p.data.length + 64)) := fun w' h => x3 w' (hE4.trans h)
        replace x4 : ∀ w', Ext w4 w' → w'.cell? ⟨b1, 4, none⟩ = some (.int .i64 p.next) := fun w' h => x4 w' (hE4.trans h)
        refine wp_region_rg Ext rel_ext (fun _ => True) [0, 1, 2, 3, 4, 5, 6, 7, 8, 9, 10, 11, 12, 13, 14, 15, 16, 17, 18, 19, 20, 21, 22, 23, 24, 25, 26, 27, 28] (fun i => match i with
          | 11 => some fun _ => eqV (.int .i64 (routI p.items key : Nat))
          | 17 => some fun _ => eqV (.int .i64 (routI p.items key : Nat))
          | 26 => some fun _ => eqV (.bool true)
          | _ => none) (fun _ => none) (fun _ => false) (by kernel_rfl) (by kernel_rfl) (fun _ _ _ _ => trivial) trivial (fun W N hW _ hN => ?_)
        have hEW : Ext w4 W := hW
        repeat (first | (apply wpR_one; (case ho => (simp only [List.getElem?_toArray, List.getElem?_cons_succ, List.getElem?_cons_zero]; try exact rfl)); (case hw => rfl); (case hl => rfl); (case hsp => rfl); (case he => rfl); (case hv => (intro w' hw'; (try (have hw2 := Ext.trans hEW hw')); (try (have hw3 := Exc.trans hEW hw')); (try (have hw4 := Exk.trans hEW hw')); (try (have hw5 := Mrk.trans hEW hw')); go_simp; exact rfl)); (case hw0 => (first | exact Below.refl _ _ | exact Exc.of_ext (Below.refl _ _) | exact Exk.of_ext (Below.refl _ _) | exact Mrk.of_ext (Below.refl _ _))); simp only [Act.put, List.setIfInBounds_toArray, List.set_cons_succ, List.set_cons_zero]) | (apply wpR_early; (case ho => (simp only [List.getElem?_toArray, List.getElem?_cons_succ, List.getElem?_cons_zero]; try exact rfl)); (case hw => rfl); (case hl => rfl); (case hsp => rfl); (case he => rfl); (case hv => (intro w' hw'; (try have hw2 := Ext.trans hEW hw'); go_simp; exact rfl)); simp only [Act.put, List.setIfInBounds_toArray, List.set_cons_succ, List.set_cons_zero]) | (apply wpR_pass; (case ho => (simp only [List.getElem?_toArray, List.getElem?_cons_succ, List.getElem?_cons_zero]; try exact rfl)); (case hw => rfl); (case hl => rfl); simp only [Act.put, List.setIfInBounds_toArray, List.set_cons_succ, List.set_cons_zero]))
        refine wpR_new (by ((simp only [List.getElem?_toArray, List.getElem?_cons_succ, List.getElem?_cons_zero]; try exact rfl))) _ rfl rfl rfl (fun V v => eqV.lasts _ v) (fun V V' h => rfl) (fun w' hw' hK => ?_) (fun u hu => ?_)
        · clear hK
          have hX' := hEb.trans (hE4.trans (hEW.trans hw'))
          have hX4 := hE4.trans (hEW.trans hw')
          unfold opAt; go_simp; refine upAt_enter ?_
          refine (nroute_any (k := key) ((hS3.ext hX4).pgv hsm) (Spared.sl (Blk.ext hSd3 hX4) hkl) rfl).mono ?_
          rintro e w2 ⟨rfl, hE2⟩
          exact ⟨_, rfl, hE2, rfl⟩
        obtain rfl : u = .int .i64 (routI p.items key : Nat) := hu.choose_spec.2.2
        clear hu
        simp only [Act.put, List.setIfInBounds_toArray, List.set_cons_succ, List.set_cons_zero]
        repeat (first | (apply wpR_one; (case ho => (simp only [List.getElem?_toArray, List.getElem?_cons_succ, List.getElem?_cons_zero]; try exact rfl)); (case hw => rfl); (case hl => rfl); (case hsp => rfl); (case he => rfl); (case hv => (intro w' hw'; (try (have hw2 := Ext.trans hEW hw')); (try (have hw3 := Exc.trans hEW hw')); (try (have hw4 := Exk.trans hEW hw')); (try (have hw5 := Mrk.trans hEW hw')); go_simp; exact rfl)); (case hw0 => (first | exact Below.refl _ _ | exact Exc.of_ext (Below.refl _ _) | exact Exk.of_ext (Below.refl _ _) | exact Mrk.of_ext (Below.refl _ _))); simp only [Act.put, List.setIfInBounds_toArray, List.set_cons_succ, List.set_cons_zero]) | (apply wpR_early; (case ho => (simp only [List.getElem?_toArray, List.getElem?_cons_succ, List.getElem?_cons_zero]; try exact rfl)); (case hw => rfl); (case hl => rfl); (case hsp => rfl); (case he => rfl); (case hv => (intro w' hw'; (try have hw2 := Ext.trans hEW hw'); go_simp; exact rfl)); simp only [Act.put, List.setIfInBounds_toArray, List.set_cons_succ, List.set_cons_zero]) | (apply wpR_pass; (case ho => (simp only [List.getElem?_toArray, List.getElem?_cons_succ, List.getElem?_cons_zero]; try exact rfl)); (case hw => rfl); (case hl => rfl); simp only [Act.put, List.setIfInBounds_toArray, List.set_cons_succ, List.set_cons_zero]))
        refine wpR_new (by ((simp only [List.getElem?_toArray, List.getElem?_cons_succ, List.getElem?_cons_zero]; try exact rfl))) _ rfl rfl rfl (fun V v => eqV.lasts _ v) (fun V V' h => rfl) (fun w' hw' hK => ?_) (fun u hu => ?_)
        · clear hK
          have hX' := hEb.trans (hE4.trans (hEW.trans hw'))
          have hX4 := hE4.trans (hEW.trans hw')
          unfold opAt; go_simp; refine upAt_enter ?_
          refine (rroute_any (hv.ext hX') (hks.ext hX') rfl).mono ?_
          rintro e w2 ⟨rfl, hE2⟩
          exact ⟨_, rfl, hE2, rfl⟩
        obtain rfl : u = .int .i64 (routI p.items key : Nat) := hu.choose_spec.2.2
        clear hu
        simp only [Act.put, List.setIfInBounds_toArray, List.set_cons_succ, List.set_cons_zero]
        repeat (first | (apply wpR_one; (case ho => (simp only [List.getElem?_toArray, List.getElem?_cons_succ, List.getElem?_cons_zero]; try exact rfl)); (case hw => rfl); (case hl => rfl); (case hsp => rfl); (case he => rfl); (case hv => (intro w' hw'; (try (have hw2 := Ext.trans hEW hw')); (try (have hw3 := Exc.trans hEW hw')); (try (have hw4 := Exk.trans hEW hw')); (try (have hw5 := Mrk.trans hEW hw')); go_simp; exact rfl)); (case hw0 => (first | exact Below.refl _ _ | exact Exc.of_ext (Below.refl _ _) | exact Exk.of_ext (Below.refl _ _) | exact Mrk.of_ext (Below.refl _ _))); simp only [Act.put, List.setIfInBounds_toArray, List.set_cons_succ, List.set_cons_zero]) | (apply wpR_early; (case ho => (simp only [List.getElem?_toArray, List.getElem?_cons_succ, List.getElem?_cons_zero]; try exact rfl)); (case hw => rfl); (case hl => rfl); (case hsp => rfl); (case he => rfl); (case hv => (intro w' hw'; (try have hw2 := Ext.trans hEW hw'); go_simp; exact rfl)); simp only [Act.put, List.setIfInBounds_toArray, List.set_cons_succ, List.set_cons_zero]) | (apply wpR_pass; (case ho => (simp only [List.getElem?_toArray, List.getElem?_cons_succ, List.getElem?_cons_zero]; try exact rfl)); (case hw => rfl); (case hl => rfl); simp only [Act.put, List.setIfInBounds_toArray, List.set_cons_succ, List.set_cons_zero]))
        refine wpR_new (by ((simp only [List.getElem?_toArray, List.getElem?_cons_succ, List.getElem?_cons_zero]; try exact rfl))) _ rfl rfl rfl (fun V v => eqV.lasts _ v) (fun V V' h => rfl) (fun w' hw' hK => ?_) (fun u hu => ?_)
        · clear hK
          have hX' := hEb.trans (hE4.trans (hEW.trans hw'))
          have hX4 := hE4.trans (hEW.trans hw')
          unfold opAt; go_simp; refine upAt_enter ?_
          refine (kept_any (Blk.ext hSd3 hX4) (hks.ext hX')).mono ?_
          rintro e w2 ⟨rfl, hE2⟩
          exact ⟨_, rfl, hE2, rfl⟩
        obtain rfl : u = .bool true := hu.choose_spec.2.2
        clear hu
        simp only [Act.put, List.setIfInBounds_toArray, List.set_cons_succ, List.set_cons_zero]
        repeat (first | (apply wpR_one; (case ho => (simp only [List.getElem?_toArray, List.getElem?_cons_succ, List.getElem?_cons_zero]; try exact rfl)); (case hw => rfl); (case hl => rfl); (case hsp => rfl); (case he => rfl); (case hv => (intro w' hw'; (try (have hw2 := Ext.trans hEW hw')); (try (have hw3 := Exc.trans hEW hw')); (try (have hw4 := Exk.trans hEW hw')); (try (have hw5 := Mrk.trans hEW hw')); go_simp; exact rfl)); (case hw0 => (first | exact Below.refl _ _ | exact Exc.of_ext (Below.refl _ _) | exact Exk.of_ext (Below.refl _ _) | exact Mrk.of_ext (Below.refl _ _))); simp only [Act.put, List.setIfInBounds_toArray, List.set_cons_succ, List.set_cons_zero]) | (apply wpR_early; (case ho => (simp only [List.getElem?_toArray, List.getElem?_cons_succ, List.getElem?_cons_zero]; try exact rfl)); (case hw => rfl); (case hl => rfl); (case hsp => rfl); (case he => rfl); (case hv => (intro w' hw'; (try have hw2 := Ext.trans hEW hw'); go_simp; exact rfl)); simp only [Act.put, List.setIfInBounds_toArray, List.set_cons_succ, List.set_cons_zero]) | (apply wpR_pass; (case ho => (simp only [List.getElem?_toArray, List.getElem?_cons_succ, List.getElem?_cons_zero]; try exact rfl)); (case hw => rfl); (case hl => rfl); simp only [Act.put, List.setIfInBounds_toArray, List.set_cons_succ, List.set_cons_zero]))
        apply wpR_nil
        apply hN
        intro w5 hE' hK hF
        have hE5 := hE4.trans (hEW.trans hE')
        clear hK hF hN hEW hE' hW p0 p1 p2 p3 p4 x0 x1 x2 x3 x4 hkr
        go_wp2
        go_roundw
        case rel => exact ⟨k + 1, by omega, by rw [Int.natCast_succ], hEb.trans hE5, hE5.blk HP3.out, hE5.blk HX3.out, hS3.ext hE5⟩
        case measure => simp [intOf]; omega
  · have HM := Lib.hid (show (ks.take 200).length = 200 from by rw [List.length_take]; omega)
    have hk2 := hk.take 200
    have hm200 : 200 ≤ 200 := by omega
    have hle2 : 200 ≤ c := by omega
    have hc2 : (200 : Int) < ks.length := by omega
    clear hk hle hc
    go_enter Try.func4, Try.ntmps4
    go_wp2_with fail
    clear hc2
    refine (sparePage_any (hv.ext (ext_alloc _ _))).mono ?_
    rintro e w1 ⟨v, rfl, hS, hE1⟩
    obtain ⟨xg, xps, xd, rfl, _⟩ := hS.ex
    have hP := hE1.blk (heap_alloc_new w (.cells #[.int .i64 p.kind, .int .i64 p.level, .slice iA p.items.length ic, .slice dA p.data.length dc, .int .i64 p.next] 26))
    have hE := (ext_alloc w (.cells #[.int .i64 p.kind, .int .i64 p.level, .slice iA p.items.length ic, .slice dA p.data.length dc, .int .i64 p.next] 26)).trans hE1
    clear hE1
    go_wp2
    have hX := heap_alloc_new w1 (.cells #[.int .i64 p.kind, .int .i64 p.level, .slice (some ⟨xg, 0, none⟩) p.items.length (p.items.length + 2), .slice (some ⟨xd, 0, none⟩) p.data.length (p.data.length + 64), .int .i64 p.next] 26)
    have hP1 := (ext_alloc w1 (.cells #[.int .i64 p.kind, .int .i64 p.level, .slice (some ⟨xg, 0, none⟩) p.items.length (p.items.length + 2), .slice (some ⟨xd, 0, none⟩) p.data.length (p.data.length + 64), .int .i64 p.next] 26)).blk hP
    have hE1 := hE.trans (ext_alloc w1 (.cells #[.int .i64 p.kind, .int .i64 p.level, .slice (some ⟨xg, 0, none⟩) p.items.length (p.items.length + 2), .slice (some ⟨xd, 0, none⟩) p.data.length (p.data.length + 64), .int .i64 p.next] 26))
    have hS1 := hS.ext (ext_alloc w1 (.cells #[.int .i64 p.kind, .int .i64 p.level, .slice (some ⟨xg, 0, none⟩) p.items.length (p.items.length + 2), .slice (some ⟨xd, 0, none⟩) p.data.length (p.data.length + 64), .int .i64 p.next] 26))
    obtain ⟨b1, hb1⟩ : ∃ b, w1.heap.size = b := ⟨_, rfl⟩
    rw [hb1] at hX ⊢
    obtain ⟨b0, hb0⟩ : ∃ b, w.heap.size = b := ⟨_, rfl⟩
    rw [hb0] at hP1 ⊢
    clear hb1 hb0 hP hE hS
    go_loopw [6] (fun i wr => ∃ k : Nat, k ≤ 200 ∧ i = .int .i64 k ∧ Ext w wr ∧ wr.heap[b0]? = some (.cells #[.int .i64 p.kind, .int .i64 p.level, .slice iA p.items.length ic, .slice dA p.data.length dc, .int .i64 p.next] 26) ∧ wr.heap[b1]? = some (.cells #[.int .i64 p.kind, .int .i64 p.level, .slice (some ⟨xg, 0, none⟩) p.items.length (p.items.length + 2), .slice (some ⟨xd, 0, none⟩) p.data.length (p.data.length + 64), .int .i64 p.next] 26) ∧ SpPg wr (.agg #[.int .i64 p.kind, .int .i64 p.level, .slice (some ⟨xg, 0, none⟩) p.items.length (p.items.length + 2), .slice (some ⟨xd, 0, none⟩) p.data.length (p.data.length + 64), .int .i64 p.next]) p) (fun i _ => 200 - (intOf i).toNat)
    case atStart => exact ⟨0, Nat.zero_le _, rfl, hE1, hP1, hX, hS1⟩
    case round =>
      clear hE1 hP1 hX hS1
      obtain ⟨k, hkm, rfl, hE, hP, hX, hS⟩ := hrel
      by_cases hlt : k < 200
      rotate_left
      · obtain rfl : k = 200 := by omega
        clear hlt hkm
        have HP := Lib.hid hP
        have HX := Lib.hid hX
        have p0 := cell_of_row _ b0 0 _ _ _ HP.out
        have p1 := cell_of_row _ b0 1 _ _ _ HP.out
        have p2 := cell_of_row _ b0 2 _ _ _ HP.out
        have p3 := cell_of_row _ b0 3 _ _ _ HP.out
        have p4 := cell_of_row _ b0 4 _ _ _ HP.out
        simp at p0 p1 p2 p3 p4
        have x0 := cell_of_row _ b1 0 _ _ _ HX.out
        have x1 := cell_of_row _ b1 1 _ _ _ HX.out
        have x2 := cell_of_row _ b1 2 _ _ _ HX.out
        have x3 := cell_of_row _ b1 3 _ _ _ HX.out
        have x4 := cell_of_row _ b1 4 _ _ _ HX.out
        simp at x0 x1 x2 x3 x4
        clear hP hX
        go_wp2_with fail
        refine (keptPage_any hS (hv.ext hE)).mono ?_
        rintro e w2 ⟨rfl, hE2⟩
        go_wp2_with fail
        refine works_any.mono ?_
        rintro e w3 ⟨rfl, hE3⟩
        have hEE := hE.trans (hE2.trans hE3)
        clear hE hE2 hE3 p0 p1 p2 p3 p4 x0 x1 x2 x3 x4
        go_wp2
        go_ret
        exact ⟨rfl, hEE⟩
      · obtain ⟨kb, ko, rfl, hrd⟩ := hk2.rd (by rw [HM.out]; omega)
        obtain ⟨kA, kc, hkc, hks⟩ := hrd k _ (List.getElem?_eq_getElem (by rw [HM.out]; exact hlt))
        generalize (ks.take 200)[k]'(by rw [HM.out]; exact hlt) = key at hkc hks
        have i1 : (k : Int) < (200 : Nat) := by omega
        have i2 : (0 : Int) ≤ k := by omega
        have hkc2 := hE.cell hkc
        have hkl := hks.len
        clear hkm hlt hkc hrd
        go_wp2_with fail
        refine (spare_any (hks.ext hE)).mono ?_
        rintro e w2 ⟨sg, rfl, _, hSd, hE2⟩
        have HP := Lib.hid (hE2.blk hP)
        have HX := Lib.hid (hE2.blk hX)
        have hS2 := hS.ext hE2
        have hEa := hE.trans hE2
        have hkc3 := hE2.cell hkc2
        have p0 := cell_of_row _ b0 0 _ _ _ HP.out
        have p1 := cell_of_row _ b0 1 _ _ _ HP.out
        have p2 := cell_of_row _ b0 2 _ _ _ HP.out
        have p3 := cell_of_row _ b0 3 _ _ _ HP.out
        have p4 := cell_of_row _ b0 4 _ _ _ HP.out
        simp at p0 p1 p2 p3 p4
        have x0 := cell_of_row _ b1 0 _ _ _ HX.out
        have x1 := cell_of_row _ b1 1 _ _ _ HX.out
        have x2 := cell_of_row _ b1 2 _ _ _ HX.out
        have x3 := cell_of_row _ b1 3 _ _ _ HX.out
        have x4 := cell_of_row _ b1 4 _ _ _ HX.out
        simp at x0 x1 x2 x3 x4
        clear hP hX hS hE2 hkc2
        go_wp2_with fail
        have hSs := hSd.sl hkl
        refine (nsearch_any (k := key) (hS2.pgv hsm) hSs rfl).mono ?_
        rintro e w3 ⟨rfl, hE3⟩
        clear p0 p1 p2 p3 p4 x0 x1 x2 x3 x4
        have hkc4 := hE3.cell hkc3
        have HP3 := Lib.hid (hE3.blk HP.out)
        have HX3 := Lib.hid (hE3.blk HX.out)
        have hS3 := hS2.ext hE3
        have hSd3 := hSd.ext hE3
        have hEb := hEa.trans hE3
        clear HP HX hS2 hEa hkc3 hSd hSs hE3
        go_wp2_with fail
        have hkr : ∀ w', Ext w3 w' → w'.cell? ⟨kb, ko + k, none⟩ = some (.slice kA key.length kc) := fun w' h => h.cell hkc4
        have p0 : ∀ w', Ext w3 w' → w'.cell? ⟨b0, 0, none⟩ = some (.int .i64 p.kind) := fun w' h => cell_of_row _ _ _ _ _ _ (h.blk HP3.out)
        have p1 : ∀ w', Ext w3 w' → w'.cell? ⟨b0, 1, none⟩ = some (.int .i64 p.level) := fun w' h => cell_of_row _ _ _ _ _ _ (h.blk HP3.out)
        have p2 : ∀ w', Ext w3 w' → w'.cell? ⟨b0, 2, none⟩ = some (.slice iA p.items.length ic) := fun w' h => cell_of_row _ _ _ _ _ _ (h.blk HP3.out)
        have p3 : ∀ w', Ext w3 w' → w'.cell? ⟨b0, 3, none⟩ = some (.slice dA p.data.length dc) := fun w' h => cell_of_row _ _ _ _ _ _ (h.blk HP3.out)
        have p4 : ∀ w', Ext w3 w' → w'.cell? ⟨b0, 4, none⟩ = some (.int .i64 p.next) := fun w' h => cell_of_row _ _ _ _ _ _ (h.blk HP3.out)
        have x0 : ∀ w', Ext w3 w' → w'.cell? ⟨b1, 0, none⟩ = some (.int .i64 p.kind) := fun w' h => cell_of_row _ _ _ _ _ _ (h.blk HX3.out)
        have x1 : ∀ w', Ext w3 w' → w'.cell? ⟨b1, 1, none⟩ = some (.int .i64 p.level) := fun w' h => cell_of_row _ _ _ _ _ _ (h.blk HX3.out)
        have x2 : ∀ w', Ext w3 w' → w'.cell? ⟨b1, 2, none⟩ = some (.slice (some ⟨xg, 0, none⟩) p.items.length (p.items.length + 2)) := fun w' h => cell_of_row _ _ _ _ _ _ (h.blk HX3.out)
        have x3 : ∀ w', Ext w3 w' → w'.cell? ⟨b1, 3, none⟩ = some (.slice (some ⟨xd, 0, none⟩) p.data.length (p.data.length + 64)) := fun w' h => cell_of_row _ _ _ _ _ _ (h.blk HX3.out)
        have x4 : ∀ w', Ext w3 w' → w'.cell? ⟨b1, 4, none⟩ = some (.int .i64 p.next) := fun w' h => cell_of_row _ _ _ _ _ _ (h.blk HX3.out)
        refine wp_region_rg Ext rel_ext (fun _ => True) [0, 1, 2, 3, 4, 5, 6, 7, 8, 9, 10] (fun i => match i with
          | 5 => some fun _ => eqV (.tuple #[.int .i64 (srchI p.items key : Nat), .bool (srchB p.items key)])
          | _ => none) (fun _ => none) (fun _ => false) (by kernel_rfl) (by kernel_rfl) (fun _ _ _ _ => trivial) trivial (fun W N hW _ hN => ?_)
        have hEW : Ext w3 W := hW
        repeat (first | (apply wpR_one; (case ho => (simp only [List.getElem?_toArray, List.getElem?_cons_succ, List.getElem?_cons_zero]; try exact rfl)); (case hw => rfl); (case hl => rfl); (case hsp => rfl); (case he => rfl); (case hv => (intro w' hw'; (try (have hw2 := Ext.trans hEW hw')); (try (have hw3 := Exc.trans hEW hw')); (try (have hw4 := Exk.trans hEW hw')); (try (have hw5 := Mrk.trans hEW hw')); go_simp; exact rfl)); (case hw0 => (first | exact Below.refl _ _ | exact Exc.of_ext (Below.refl _ _) | exact Exk.of_ext (Below.refl _ _) | exact Mrk.of_ext (Below.refl _ _))); simp only [Act.put, List.setIfInBounds_toArray, List.set_cons_succ, List.set_cons_zero]) | (apply wpR_early; (case ho => (simp only [List.getElem?_toArray, List.getElem?_cons_succ, List.getElem?_cons_zero]; try exact rfl)); (case hw => rfl); (case hl => rfl); (case hsp => rfl); (case he => rfl); (case hv => (intro w' hw'; (try have hw2 := Ext.trans hEW hw'); go_simp; exact rfl)); simp only [Act.put, List.setIfInBounds_toArray, List.set_cons_succ, List.set_cons_zero]) | (apply wpR_pass; (case ho => (simp only [List.getElem?_toArray, List.getElem?_cons_succ, List.getElem?_cons_zero]; try exact rfl)); (case hw => rfl); (case hl => rfl); simp only [Act.put, List.setIfInBounds_toArray, List.set_cons_succ, List.set_cons_zero]))
        refine wpR_new (by ((simp only [List.getElem?_toArray, List.getElem?_cons_succ, List.getElem?_cons_zero]; try exact rfl))) _ rfl rfl rfl (fun V v => eqV.lasts _ v) (fun V V' h => rfl) (fun w' hw' hK => ?_) (fun u hu => ?_)
        · clear hK
          have hX' := hEb.trans (hEW.trans hw')
          unfold opAt; go_simp; refine upAt_enter ?_
          refine (rsearch_any (hv.ext hX') (hks.ext hX') rfl).mono ?_
          rintro e w2 ⟨rfl, hE2⟩
          exact ⟨_, rfl, hE2, rfl⟩
        obtain rfl : u = .tuple #[.int .i64 (srchI p.items key : Nat), .bool (srchB p.items key)] := hu.choose_spec.2.2
        clear hu
        simp only [Act.put, List.setIfInBounds_toArray, List.set_cons_succ, List.set_cons_zero]
        repeat (first | (apply wpR_one; (case ho => (simp only [List.getElem?_toArray, List.getElem?_cons_succ, List.getElem?_cons_zero]; try exact rfl)); (case hw => rfl); (case hl => rfl); (case hsp => rfl); (case he => rfl); (case hv => (intro w' hw'; (try (have hw2 := Ext.trans hEW hw')); (try (have hw3 := Exc.trans hEW hw')); (try (have hw4 := Exk.trans hEW hw')); (try (have hw5 := Mrk.trans hEW hw')); go_simp; exact rfl)); (case hw0 => (first | exact Below.refl _ _ | exact Exc.of_ext (Below.refl _ _) | exact Exk.of_ext (Below.refl _ _) | exact Mrk.of_ext (Below.refl _ _))); simp only [Act.put, List.setIfInBounds_toArray, List.set_cons_succ, List.set_cons_zero]) | (apply wpR_early; (case ho => (simp only [List.getElem?_toArray, List.getElem?_cons_succ, List.getElem?_cons_zero]; try exact rfl)); (case hw => rfl); (case hl => rfl); (case hsp => rfl); (case he => rfl); (case hv => (intro w' hw'; (try have hw2 := Ext.trans hEW hw'); go_simp; exact rfl)); simp only [Act.put, List.setIfInBounds_toArray, List.set_cons_succ, List.set_cons_zero]) | (apply wpR_pass; (case ho => (simp only [List.getElem?_toArray, List.getElem?_cons_succ, List.getElem?_cons_zero]; try exact rfl)); (case hw => rfl); (case hl => rfl); simp only [Act.put, List.setIfInBounds_toArray, List.set_cons_succ, List.set_cons_zero]))
        apply wpR_nil
        apply hN
        intro w4 hE' hK hF
        have hE4 := hEW.trans hE'
        clear hK hF hN hEW hE' hW
        go_wp2_with fail
        replace hkr : ∀ w', Ext w4 w' → w'.cell? ⟨kb, ko + k, none⟩ = some (.slice kA key.length kc) := fun w' h => hkr w' (hE4.trans h)
        replace p0 : ∀ w', Ext w4 w' → w'.cell? ⟨b0, 0, none⟩ = some (.int .i64 p.kind) := fun w' h => p0 w' (hE4.trans h)
        replace p1 : ∀ w', Ext w4 w' → w'.cell? ⟨b0, 1, none⟩ = some (.int .i64 p.level) := fun w' h => p1 w' (hE4.trans h)
        replace p2 : ∀ w', Ext w4 w' → w'.cell? ⟨b0, 2, none⟩ = some (.slice iA p.items.length ic) := fun w' h => p2 w' (hE4.trans h)
        replace p3 : ∀ w', Ext w4 w' → w'.cell? ⟨b0, 3, none⟩ = some (.slice dA p.data.length dc) := fun w' h => p3 w' (hE4.trans h)
        replace p4 : ∀ w', Ext w4 w' → w'.cell? ⟨b0, 4, none⟩ = some (.int .i64 p.next) := fun w' h => p4 w' (hE4.trans h)
        replace x0 : ∀ w', Ext w4 w' → w'.cell? ⟨b1, 0, none⟩ = some (.int .i64 p.kind) := fun w' h => x0 w' (hE4.trans h)
        replace x1 : ∀ w', Ext w4 w' → w'.cell? ⟨b1, 1, none⟩ = some (.int .i64 p.level) := fun w' h => x1 w' (hE4.trans h)
        replace x2 : ∀ w', Ext w4 w' → w'.cell? ⟨b1, 2, none⟩ = some (.slice (some ⟨xg, 0, none⟩) p.items.length (p.items.length + 2)) := fun w' h => x2 w' (hE4.trans h)
        replace x3 : ∀ w', Ext w4 w' → w'.cell? ⟨b1, 3, none⟩ = some (.slice (some ⟨xd, 0, none⟩) p.data.length (p.data.length + 64)) := fun w' h => x3 w' (hE4.trans h)
        replace x4 : ∀ w', Ext w4 w' → w'.cell? ⟨b1, 4, none⟩ = some (.int .i64 p.next) := fun w' h => x4 w' (hE4.trans h)
        refine wp_region_rg Ext rel_ext (fun _ => True) [0, 1, 2, 3, 4, 5, 6, 7, 8, 9, 10, 11, 12, 13, 14, 15, 16, 17, 18, 19, 20, 21, 22, 23, 24, 25, 26, 27, 28] (fun i => match i with
          | 11 => some fun _ => eqV (.int .i64 (routI p.items key : Nat))
          | 17 => some fun _ => eqV (.int .i64 (routI p.items key : Nat))
          | 26 => some fun _ => eqV (.bool true)
          | _ => none) (fun _ => none) (fun _ => false) (by kernel_rfl) (by kernel_rfl) (fun _ _ _ _ => trivial) trivial (fun W N hW _ hN => ?_)
        have hEW : Ext w4 W := hW
        repeat (first | (apply wpR_one; (case ho => (simp only [List.getElem?_toArray, List.getElem?_cons_succ, List.getElem?_cons_zero]; try exact rfl)); (case hw => rfl); (case hl => rfl); (case hsp => rfl); (case he => rfl); (case hv => (intro w' hw'; (try (have hw2 := Ext.trans hEW hw')); (try (have hw3 := Exc.trans hEW hw')); (try (have hw4 := Exk.trans hEW hw')); (try (have hw5 := Mrk.trans hEW hw')); go_simp; exact rfl)); (case hw0 => (first | exact Below.refl _ _ | exact Exc.of_ext (Below.refl _ _) | exact Exk.of_ext (Below.refl _ _) | exact Mrk.of_ext (Below.refl _ _))); simp only [Act.put, List.setIfInBounds_toArray, List.set_cons_succ, List.set_cons_zero]) | (apply wpR_early; (case ho => (simp only [List.getElem?_toArray, List.getElem?_cons_succ, List.getElem?_cons_zero]; try exact rfl)); (case hw => rfl); (case hl => rfl); (case hsp => rfl); (case he => rfl); (case hv => (intro w' hw'; (try have hw2 := Ext.trans hEW hw'); go_simp; exact rfl)); simp only [Act.put, List.setIfInBounds_toArray, List.set_cons_succ, List.set_cons_zero]) | (apply wpR_pass; (case ho => (simp only [List.getElem?_toArray, List.getElem?_cons_succ, List.getElem?_cons_zero]; try exact rfl)); (case hw => rfl); (case hl => rfl); simp only [Act.put, List.setIfInBounds_toArray, List.set_cons_succ, List.set_cons_zero]))
        refine wpR_new (by ((simp only [List.getElem?_toArray, List.getElem?_cons_succ, List.getElem?_cons_zero]; try exact rfl))) _ rfl rfl rfl (fun V v => eqV.lasts _ v) (fun V V' h => rfl) (fun w' hw' hK => ?_) (fun u hu => ?_)
        · clear hK
          have hX' := hEb.trans (hE4.trans (hEW.trans hw'))
          have hX4 := hE4.trans (hEW.trans hw')
          unfold opAt; go_simp; refine upAt_enter ?_
          refine (nroute_any (k := key) ((hS3.ext hX4).pgv hsm) (Spared.sl (Blk.ext hSd3 hX4) hkl) rfl).mono ?_
          rintro e w2 ⟨rfl, hE2⟩
          exact ⟨_, rfl, hE2, rfl⟩
        obtain rfl : u = .int .i64 (routI p.items key : Nat) := hu.choose_spec.2.2
        clear hu
        simp only [Act.put, List.setIfInBounds_toArray, List.set_cons_succ, List.set_cons_zero]
        repeat (first | (apply wpR_one; (case ho => (simp only [List.getElem?_toArray, List.getElem?_cons_succ, List.getElem?_cons_zero]; try exact rfl)); (case hw => rfl); (case hl => rfl); (case hsp => rfl); (case he => rfl); (case hv => (intro w' hw'; (try (have hw2 := Ext.trans hEW hw')); (try (have hw3 := Exc.trans hEW hw')); (try (have hw4 := Exk.trans hEW hw')); (try (have hw5 := Mrk.trans hEW hw')); go_simp; exact rfl)); (case hw0 => (first | exact Below.refl _ _ | exact Exc.of_ext (Below.refl _ _) | exact Exk.of_ext (Below.refl _ _) | exact Mrk.of_ext (Below.refl _ _))); simp only [Act.put, List.setIfInBounds_toArray, List.set_cons_succ, List.set_cons_zero]) | (apply wpR_early; (case ho => (simp only [List.getElem?_toArray, List.getElem?_cons_succ, List.getElem?_cons_zero]; try exact rfl)); (case hw => rfl); (case hl => rfl); (case hsp => rfl); (case he => rfl); (case hv => (intro w' hw'; (try have hw2 := Ext.trans hEW hw'); go_simp; exact rfl)); simp only [Act.put, List.setIfInBounds_toArray, List.set_cons_succ, List.set_cons_zero]) | (apply wpR_pass; (case ho => (simp only [List.getElem?_toArray, List.getElem?_cons_succ, List.getElem?_cons_zero]; try exact rfl)); (case hw => rfl); (case hl => rfl); simp only [Act.put, List.setIfInBounds_toArray, List.set_cons_succ, List.set_cons_zero]))
        refine wpR_new (by ((simp only [List.getElem?_toArray, List.getElem?_cons_succ, List.getElem?_cons_zero]; try exact rfl))) _ rfl rfl rfl (fun V v => eqV.lasts _ v) (fun V V' h => rfl) (fun w' hw' hK => ?_) (fun u hu => ?_)
        · clear hK
          have hX' := hEb.trans (hE4.trans (hEW.trans hw'))
          have hX4 := hE4.trans (hEW.trans hw')
          unfold opAt; go_simp; refine upAt_enter ?_
          refine (rroute_any (hv.ext hX') (hks.ext hX') rfl).mono ?_
          rintro e w2 ⟨rfl, hE2⟩
          exact ⟨_, rfl, hE2, rfl⟩
        obtain rfl : u = .int .i64 (routI p.items key : Nat) := hu.choose_spec.2.2
        clear hu
        simp only [Act.put, List.setIfInBounds_toArray, List.set_cons_succ, List.set_cons_zero]
        repeat (first | (apply wpR_one; (case ho => (simp only [List.getElem?_toArray, List.getElem?_cons_succ, List.getElem?_cons_zero]; try exact rfl)); (case hw => rfl); (case hl => rfl); (case hsp => rfl); (case he => rfl); (case hv => (intro w' hw'; (try (have hw2 := Ext.trans hEW hw')); (try (have hw3 := Exc.trans hEW hw')); (try (have hw4 := Exk.trans hEW hw')); (try (have hw5 := Mrk.trans hEW hw')); go_simp; exact rfl)); (case hw0 => (first | exact Below.refl _ _ | exact Exc.of_ext (Below.refl _ _) | exact Exk.of_ext (Below.refl _ _) | exact Mrk.of_ext (Below.refl _ _))); simp only [Act.put, List.setIfInBounds_toArray, List.set_cons_succ, List.set_cons_zero]) | (apply wpR_early; (case ho => (simp only [List.getElem?_toArray, List.getElem?_cons_succ, List.getElem?_cons_zero]; try exact rfl)); (case hw => rfl); (case hl => rfl); (case hsp => rfl); (case he => rfl); (case hv => (intro w' hw'; (try have hw2 := Ext.trans hEW hw'); go_simp; exact rfl)); simp only [Act.put, List.setIfInBounds_toArray, List.set_cons_succ, List.set_cons_zero]) | (apply wpR_pass; (case ho => (simp only [List.getElem?_toArray, List.getElem?_cons_succ, List.getElem?_cons_zero]; try exact rfl)); (case hw => rfl); (case hl => rfl); simp only [Act.put, List.setIfInBounds_toArray, List.set_cons_succ, List.set_cons_zero]))
        refine wpR_new (by ((simp only [List.getElem?_toArray, List.getElem?_cons_succ, List.getElem?_cons_zero]; try exact rfl))) _ rfl rfl rfl (fun V v => eqV.lasts _ v) (fun V V' h => rfl) (fun w' hw' hK => ?_) (fun u hu => ?_)
        · clear hK
          have hX' := hEb.trans (hE4.trans (hEW.trans hw'))
          have hX4 := hE4.trans (hEW.trans hw')
          unfold opAt; go_simp; refine upAt_enter ?_
          refine (kept_any (Blk.ext hSd3 hX4) (hks.ext hX')).mono ?_
          rintro e w2 ⟨rfl, hE2⟩
          exact ⟨_, rfl, hE2, rfl⟩
        obtain rfl : u = .bool true := hu.choose_spec.2.2
        clear hu
        simp only [Act.put, List.setIfInBounds_toArray, List.set_cons_succ, List.set_cons_zero]
        repeat (first | (apply wpR_one; (case ho => (simp only [List.getElem?_toArray, List.getElem?_cons_succ, List.getElem?_cons_zero]; try exact rfl)); (case hw => rfl); (case hl => rfl); (case hsp => rfl); (case he => rfl); (case hv => (intro w' hw'; (try (have hw2 := Ext.trans hEW hw')); (try (have hw3 := Exc.trans hEW hw')); (try (have hw4 := Exk.trans hEW hw')); (try (have hw5 := Mrk.trans hEW hw')); go_simp; exact rfl)); (case hw0 => (first | exact Below.refl _ _ | exact Exc.of_ext (Below.refl _ _) | exact Exk.of_ext (Below.refl _ _) | exact Mrk.of_ext (Below.refl _ _))); simp only [Act.put, List.setIfInBounds_toArray, List.set_cons_succ, List.set_cons_zero]) | (apply wpR_early; (case ho => (simp only [List.getElem?_toArray, List.getElem?_cons_succ, List.getElem?_cons_zero]; try exact rfl)); (case hw => rfl); (case hl => rfl); (case hsp => rfl); (case he => rfl); (case hv => (intro w' hw'; (try have hw2 := Ext.trans hEW hw'); go_simp; exact rfl)); simp only [Act.put, List.setIfInBounds_toArray, List.set_cons_succ, List.set_cons_zero]) | (apply wpR_pass; (case ho => (simp only [List.getElem?_toArray, List.getElem?_cons_succ, List.getElem?_cons_zero]; try exact rfl)); (case hw => rfl); (case hl => rfl); simp only [Act.put, List.setIfInBounds_toArray, List.set_cons_succ, List.set_cons_zero]))
        apply wpR_nil
        apply hN
        intro w5 hE' hK hF
        have hE5 := hE4.trans (hEW.trans hE')
        clear hK hF hN hEW hE' hW p0 p1 p2 p3 p4 x0 x1 x2 x3 x4 hkr
        go_wp2
        go_roundw
        case rel => exact ⟨k + 1, by omega, by rw [Int.natCast_succ], hEb.trans hE5, hE5.blk HP3.out, hE5.blk HX3.out, hS3.ext hE5⟩
        case measure => simp [intOf]; omega
end Go.Proofs.Ytjjbckdiojleeaa
