/- Layer 3: the contract of tuple.get. No condition but that the bytes lie in memory. -/
import Derived.Test.YtbjfgnkjmfcokaaTflt
import Derived.Test.YtbjfgnkjmfcokaaTwhole
namespace Go.Proofs.Ytbjfgnkjmfcokaa
open Go.RowKit Go.Proofs
set_option linter.unusedVariables false
theorem slice_from {w : World} {A : Option Addr} {c : Nat} {bs : List UInt8} (h : Sl w A c bs) (k : Nat) (hk : k ≤ bs.length) : ∃ A1, (∀ W, (Instr.slice 30 (.slice A bs.length c) (some (.int .i64 k)) none none).run Try.prog W = .ok (.slice A1 (bs.length - k) (c - k)) W) ∧ Sl w A1 (c - k) (bs.drop k) := by
  have hl := h.len
  have hle := h.le
  by_cases hc : c = k
  · refine ⟨A, fun W => ?_, ?_⟩
    · subst hc
      go_simp
    · have h0 : bs.drop k = [] := List.drop_eq_nil_of_le (by omega)
      rw [h0]
      exact ⟨Rd.nil _ _, by simp, by simp, by have := h.cap; omega⟩
  · refine ⟨A.map (·.add k), fun W => ?_, h.dropAt k hk hc⟩
    go_simp
section
variable {w : World} {A : Option Addr} {c : Nat} {bs r : List UInt8} {x : UInt8}
set_option maxRecDepth 100000 in
set_option maxHeartbeats 2000000 in
theorem get_1 (h : Sl w A c bs) (hb : bs = x :: r) (hx : x.toNat = 1) : Calls Try.prog 49 #[.slice A bs.length c] w fun e w' => ∃ (v : Vl) (n e2 : Int), e = .returned (.tuple #[v.p, .int .i64 n, .int .i64 e2]) ∧ GetIs bs v n e2 ∧ Ext w w' := by
  have hsf := run_store_float Try.prog
  have hsc := run_store_complex Try.prog
  have hl := h.len
  have hx8 := x.toNat_lt
  have hlen : 1 ≤ bs.length := by rw [hb]; simp
  have hl0 : 0 < bs.length := hlen
  have hl0i : (0 : Int) < (bs.length : Int) := by omega
  obtain ⟨A1, hsl, s1⟩ := slice_from h 1 hlen
  have hr : bs.drop 1 = r := by rw [hb]; rfl
  have hrl : bs.length - 1 = r.length := by rw [hb]; simp
  rw [hr] at s1
  rw [hrl] at hsl
  have hat : at8 bs 0 = (x.toNat : Int) := by rw [hb]; rfl
  obtain ⟨b, off, rfl, hc⟩ := h.rd hlen
  have hck : ∀ W, Ext w W → W.cell? ⟨b, off, none⟩ = some (.int .u8 (x.toNat : Int)) := fun W hx => by
    have := hx.cell (hc 0 hlen)
    rwa [hat, Nat.add_zero] at this
  have hsl1 : ∀ W, (Instr.slice 30 (.slice (some ⟨b, off, none⟩) bs.length c) (some (.int .i64 1)) none none).run Try.prog W = .ok (.slice A1 r.length (c - 1)) W := hsl
  have HG : Hid (GetIs bs Vl.zero 1 0) := Lib.hid (by
    obtain ⟨k1, k2, k3⟩ := nil_get (r := r) hx
    rw [hb]
    exact ⟨k2.symm, fun _ => ⟨k3.symm, by rw [k1]; rfl⟩⟩)
  have hxi : (x.toNat : Int) = 1 := by omega
  rw [hxi] at hck
  clear hc hat hr hrl hb hsl
  go_enter Try.func49, Try.ntmps49
  go_wp2
  refine wp_cut (fun W => Ext w W ∧ W.heap[w.heap.size]? = some (.cells #[.int .i64 0, .bool false, .int .i64 0, .float .f64 0, .complex .f64 0 0, str []] 56)) ⟨ext_alloc _ _, heap_alloc_new _ _⟩ ?_
  rintro w1 ⟨hE, hb1⟩
  refine wp_region_rg Ext rel_ext (fun _ => True) [0, 1, 2, 3, 4, 5, 6] (fun i => none) (fun _ => none) (fun _ => false) (by kernel_rfl) (by kernel_rfl) (fun _ _ _ _ => trivial) trivial (fun W N hW _ hN => ?_)
  have hEW := hW
  have hck2 := fun w' (h : Ext W w') => hck w' ((hE.trans hW).trans h)
  clear hck
  repeat (first | (apply wpR_one; (case ho => (simp only [List.getElem?_toArray, List.getElem?_cons_succ, List.getElem?_cons_zero]; try exact rfl)); (case hw => rfl); (case hl => rfl); (case hsp => rfl); (case he => rfl); (case hv => (intro w' hw'; (try (have hw2 := Ext.trans hEW hw')); (try (have hw3 := Exc.trans hEW hw')); (try (have hw4 := Exk.trans hEW hw')); (try (have hw5 := Mrk.trans hEW hw')); go_simp; exact rfl)); (case hw0 => (first | exact Below.refl _ _ | exact Exc.of_ext (Below.refl _ _) | exact Exk.of_ext (Below.refl _ _) | exact Mrk.of_ext (Below.refl _ _))); simp only [Act.put, List.setIfInBounds_toArray, List.set_cons_succ, List.set_cons_zero]) | (apply wpR_early; (case ho => (simp only [List.getElem?_toArray, List.getElem?_cons_succ, List.getElem?_cons_zero]; try exact rfl)); (case hw => rfl); (case hl => rfl); (case hsp => rfl); (case he => rfl); (case hv => (intro w' hw'; (try have hw2 := Ext.trans hEW hw'); go_simp; exact rfl)); simp only [Act.put, List.setIfInBounds_toArray, List.set_cons_succ, List.set_cons_zero]) | (apply wpR_pass; (case ho => (simp only [List.getElem?_toArray, List.getElem?_cons_succ, List.getElem?_cons_zero]; try exact rfl)); (case hw => rfl); (case hl => rfl); simp only [Act.put, List.setIfInBounds_toArray, List.set_cons_succ, List.set_cons_zero]))
  apply wpR_nil
  apply hN
  intro w2 hE' hK _
  have hb2 := hE'.blk (hW.blk hb1)
  have hE2 := (hE.trans hW).trans hE'
  have s2 := s1.ext hE2
  clear hK hN hck2 hEW hE' hb1 hW s1 hE hsl1
  have hb3 := (ext_alloc w2 (Obj.cells #[.int .i64 0, .bool false, .int .i64 0, .float .f64 0, .complex .f64 0 0, str []] 56)).blk hb2
  have hE3 := hE2.trans (ext_alloc w2 (Obj.cells #[.int .i64 0, .bool false, .int .i64 0, .float .f64 0, .complex .f64 0 0, str []] 56))
  go_wp2_with (refine wpList_store_box rfl 56 _ _ rfl w.heap.size _ rfl rfl 56 _ hb3 (by kernel_rfl) rfl (by simp [Value.oneCell']) ?_; intro w2 hb hgr)
  have hE4 := ext_only hE3 hgr (Nat.le_refl _)
  go_wp2
  exact bodyPost_ret (results_crr rfl _ _ _ _ _ _ _ rfl hb Try.underlying56 rfl (by kernel_rfl)) rfl ⟨Vl.zero, 1, 0, rfl, HG.out, hE4⟩
set_option maxRecDepth 100000 in
set_option maxHeartbeats 2000000 in
theorem get_2 (h : Sl w A c bs) (hb : bs = x :: r) (hx : x.toNat = 2) : Calls Try.prog 49 #[.slice A bs.length c] w fun e w' => ∃ (v : Vl) (n e2 : Int), e = .returned (.tuple #[v.p, .int .i64 n, .int .i64 e2]) ∧ GetIs bs v n e2 ∧ Ext w w' := by
  have hsf := run_store_float Try.prog
  have hsc := run_store_complex Try.prog
  have hl := h.len
  have hx8 := x.toNat_lt
  have hlen : 1 ≤ bs.length := by rw [hb]; simp
  have hl0 : 0 < bs.length := hlen
  have hl0i : (0 : Int) < (bs.length : Int) := by omega
  obtain ⟨A1, hsl, s1⟩ := slice_from h 1 hlen
  have hr : bs.drop 1 = r := by rw [hb]; rfl
  have hrl : bs.length - 1 = r.length := by rw [hb]; simp
  rw [hr] at s1
  rw [hrl] at hsl
  have hat : at8 bs 0 = (x.toNat : Int) := by rw [hb]; rfl
  obtain ⟨b, off, rfl, hc⟩ := h.rd hlen
  have hck : ∀ W, Ext w W → W.cell? ⟨b, off, none⟩ = some (.int .u8 (x.toNat : Int)) := fun W hx => by
    have := hx.cell (hc 0 hlen)
    rwa [hat, Nat.add_zero] at this
  have hsl1 : ∀ W, (Instr.slice 30 (.slice (some ⟨b, off, none⟩) bs.length c) (some (.int .i64 1)) none none).run Try.prog W = .ok (.slice A1 r.length (c - 1)) W := hsl
  have HG : Hid (GetIs bs { Vl.zero with kind := 1, bool := false } 1 0) := Lib.hid (by
    obtain ⟨k1, k2, k3⟩ := bool_get (r := r) (c := x) (by omega)
    rw [hx] at k3
    rw [hb]
    exact ⟨k2.symm, fun _ => ⟨k3.symm, by rw [k1]; rfl⟩⟩)
  have hxi : (x.toNat : Int) = 2 := by omega
  rw [hxi] at hck
  clear hc hat hr hrl hb hsl
  go_enter Try.func49, Try.ntmps49
  go_wp2
  refine wp_cut (fun W => Ext w W ∧ W.heap[w.heap.size]? = some (.cells #[.int .i64 0, .bool false, .int .i64 0, .float .f64 0, .complex .f64 0 0, str []] 56)) ⟨ext_alloc _ _, heap_alloc_new _ _⟩ ?_
  rintro w1 ⟨hE, hb1⟩
  refine wp_region_rg Ext rel_ext (fun _ => True) [0, 1, 2, 3, 4, 5, 6] (fun i => none) (fun _ => none) (fun _ => false) (by kernel_rfl) (by kernel_rfl) (fun _ _ _ _ => trivial) trivial (fun W N hW _ hN => ?_)
  have hEW := hW
  have hck2 := fun w' (h : Ext W w') => hck w' ((hE.trans hW).trans h)
  clear hck
  repeat (first | (apply wpR_one; (case ho => (simp only [List.getElem?_toArray, List.getElem?_cons_succ, List.getElem?_cons_zero]; try exact rfl)); (case hw => rfl); (case hl => rfl); (case hsp => rfl); (case he => rfl); (case hv => (intro w' hw'; (try (have hw2 := Ext.trans hEW hw')); (try (have hw3 := Exc.trans hEW hw')); (try (have hw4 := Exk.trans hEW hw')); (try (have hw5 := Mrk.trans hEW hw')); go_simp; exact rfl)); (case hw0 => (first | exact Below.refl _ _ | exact Exc.of_ext (Below.refl _ _) | exact Exk.of_ext (Below.refl _ _) | exact Mrk.of_ext (Below.refl _ _))); simp only [Act.put, List.setIfInBounds_toArray, List.set_cons_succ, List.set_cons_zero]) | (apply wpR_early; (case ho => (simp only [List.getElem?_toArray, List.getElem?_cons_succ, List.getElem?_cons_zero]; try exact rfl)); (case hw => rfl); (case hl => rfl); (case hsp => rfl); (case he => rfl); (case hv => (intro w' hw'; (try have hw2 := Ext.trans hEW hw'); go_simp; exact rfl)); simp only [Act.put, List.setIfInBounds_toArray, List.set_cons_succ, List.set_cons_zero]) | (apply wpR_pass; (case ho => (simp only [List.getElem?_toArray, List.getElem?_cons_succ, List.getElem?_cons_zero]; try exact rfl)); (case hw => rfl); (case hl => rfl); simp only [Act.put, List.setIfInBounds_toArray, List.set_cons_succ, List.set_cons_zero]))
  apply wpR_nil
  apply hN
  intro w2 hE' hK _
  have hb2 := hE'.blk (hW.blk hb1)
  have hE2 := (hE.trans hW).trans hE'
  have s2 := s1.ext hE2
  clear hK hN hck2 hEW hE' hb1 hW s1 hE hsl1
  have hb3 := (ext_alloc w2 (Obj.cells #[.int .i64 1, .bool false, .int .i64 0, .float .f64 0, .complex .f64 0 0, str []] 56)).blk hb2
  have hE3 := hE2.trans (ext_alloc w2 (Obj.cells #[.int .i64 1, .bool false, .int .i64 0, .float .f64 0, .complex .f64 0 0, str []] 56))
  go_wp2_with (refine wpList_store_box rfl 56 _ _ rfl w.heap.size _ rfl rfl 56 _ hb3 (by kernel_rfl) rfl (by simp [Value.oneCell']) ?_; intro w2 hb hgr)
  have hE4 := ext_only hE3 hgr (Nat.le_refl _)
  go_wp2
  exact bodyPost_ret (results_crr rfl _ _ _ _ _ _ _ rfl hb Try.underlying56 rfl (by kernel_rfl)) rfl ⟨{ Vl.zero with kind := 1, bool := false }, 1, 0, rfl, HG.out, hE4⟩
set_option maxRecDepth 100000 in
set_option maxHeartbeats 2000000 in
theorem get_3 (h : Sl w A c bs) (hb : bs = x :: r) (hx : x.toNat = 3) : Calls Try.prog 49 #[.slice A bs.length c] w fun e w' => ∃ (v : Vl) (n e2 : Int), e = .returned (.tuple #[v.p, .int .i64 n, .int .i64 e2]) ∧ GetIs bs v n e2 ∧ Ext w w' := by
  have hsf := run_store_float Try.prog
  have hsc := run_store_complex Try.prog
  have hl := h.len
  have hx8 := x.toNat_lt
  have hlen : 1 ≤ bs.length := by rw [hb]; simp
  have hl0 : 0 < bs.length := hlen
  have hl0i : (0 : Int) < (bs.length : Int) := by omega
  obtain ⟨A1, hsl, s1⟩ := slice_from h 1 hlen
  have hr : bs.drop 1 = r := by rw [hb]; rfl
  have hrl : bs.length - 1 = r.length := by rw [hb]; simp
  rw [hr] at s1
  rw [hrl] at hsl
  have hat : at8 bs 0 = (x.toNat : Int) := by rw [hb]; rfl
  obtain ⟨b, off, rfl, hc⟩ := h.rd hlen
  have hck : ∀ W, Ext w W → W.cell? ⟨b, off, none⟩ = some (.int .u8 (x.toNat : Int)) := fun W hx => by
    have := hx.cell (hc 0 hlen)
    rwa [hat, Nat.add_zero] at this
  have hsl1 : ∀ W, (Instr.slice 30 (.slice (some ⟨b, off, none⟩) bs.length c) (some (.int .i64 1)) none none).run Try.prog W = .ok (.slice A1 r.length (c - 1)) W := hsl
  have HG : Hid (GetIs bs { Vl.zero with kind := 1, bool := true } 1 0) := Lib.hid (by
    obtain ⟨k1, k2, k3⟩ := bool_get (r := r) (c := x) (by omega)
    rw [hx] at k3
    rw [hb]
    exact ⟨k2.symm, fun _ => ⟨k3.symm, by rw [k1]; rfl⟩⟩)
  have hxi : (x.toNat : Int) = 3 := by omega
  rw [hxi] at hck
  clear hc hat hr hrl hb hsl
  go_enter Try.func49, Try.ntmps49
  go_wp2
  refine wp_cut (fun W => Ext w W ∧ W.heap[w.heap.size]? = some (.cells #[.int .i64 0, .bool false, .int .i64 0, .float .f64 0, .complex .f64 0 0, str []] 56)) ⟨ext_alloc _ _, heap_alloc_new _ _⟩ ?_
  rintro w1 ⟨hE, hb1⟩
  refine wp_region_rg Ext rel_ext (fun _ => True) [0, 1, 2, 3, 4, 5, 6] (fun i => none) (fun _ => none) (fun _ => false) (by kernel_rfl) (by kernel_rfl) (fun _ _ _ _ => trivial) trivial (fun W N hW _ hN => ?_)
  have hEW := hW
  have hck2 := fun w' (h : Ext W w') => hck w' ((hE.trans hW).trans h)
  clear hck
  repeat (first | (apply wpR_one; (case ho => (simp only [List.getElem?_toArray, List.getElem?_cons_succ, List.getElem?_cons_zero]; try exact rfl)); (case hw => rfl); (case hl => rfl); (case hsp => rfl); (case he => rfl); (case hv => (intro w' hw'; (try (have hw2 := Ext.trans hEW hw')); (try (have hw3 := Exc.trans hEW hw')); (try (have hw4 := Exk.trans hEW hw')); (try (have hw5 := Mrk.trans hEW hw')); go_simp; exact rfl)); (case hw0 => (first | exact Below.refl _ _ | exact Exc.of_ext (Below.refl _ _) | exact Exk.of_ext (Below.refl _ _) | exact Mrk.of_ext (Below.refl _ _))); simp only [Act.put, List.setIfInBounds_toArray, List.set_cons_succ, List.set_cons_zero]) | (apply wpR_early; (case ho => (simp only [List.getElem?_toArray, List.getElem?_cons_succ, List.getElem?_cons_zero]; try exact rfl)); (case hw => rfl); (case hl => rfl); (case hsp => rfl); (case he => rfl); (case hv => (intro w' hw'; (try have hw2 := Ext.trans hEW hw'); go_simp; exact rfl)); simp only [Act.put, List.setIfInBounds_toArray, List.set_cons_succ, List.set_cons_zero]) | (apply wpR_pass; (case ho => (simp only [List.getElem?_toArray, List.getElem?_cons_succ, List.getElem?_cons_zero]; try exact rfl)); (case hw => rfl); (case hl => rfl); simp only [Act.put, List.setIfInBounds_toArray, List.set_cons_succ, List.set_cons_zero]))
  apply wpR_nil
  apply hN
  intro w2 hE' hK _
  have hb2 := hE'.blk (hW.blk hb1)
  have hE2 := (hE.trans hW).trans hE'
  have s2 := s1.ext hE2
  clear hK hN hck2 hEW hE' hb1 hW s1 hE hsl1
  have hb3 := (ext_alloc w2 (Obj.cells #[.int .i64 1, .bool true, .int .i64 0, .float .f64 0, .complex .f64 0 0, str []] 56)).blk hb2
  have hE3 := hE2.trans (ext_alloc w2 (Obj.cells #[.int .i64 1, .bool true, .int .i64 0, .float .f64 0, .complex .f64 0 0, str []] 56))
  go_wp2_with (refine wpList_store_box rfl 56 _ _ rfl w.heap.size _ rfl rfl 56 _ hb3 (by kernel_rfl) rfl (by simp [Value.oneCell']) ?_; intro w2 hb hgr)
  have hE4 := ext_only hE3 hgr (Nat.le_refl _)
  go_wp2
  exact bodyPost_ret (results_crr rfl _ _ _ _ _ _ _ rfl hb Try.underlying56 rfl (by kernel_rfl)) rfl ⟨{ Vl.zero with kind := 1, bool := true }, 1, 0, rfl, HG.out, hE4⟩
set_option maxRecDepth 100000 in
set_option maxHeartbeats 2000000 in
theorem get_lo (h : Sl w A c bs) (hb : bs = x :: r) (h1 : ¬ (1 ≤ x.toNat ∧ x.toNat ≤ 3)) (h2 : ¬ (23 ≤ x.toNat ∧ x.toNat ≤ 40)) (h3 : ¬ x.toNat = 48) (h4 : ¬ x.toNat = 56) (h5 : ¬ x.toNat = 64) (h6 : x.toNat < 23) : Calls Try.prog 49 #[.slice A bs.length c] w fun e w' => ∃ (v : Vl) (n e2 : Int), e = .returned (.tuple #[v.p, .int .i64 n, .int .i64 e2]) ∧ GetIs bs v n e2 ∧ Ext w w' := by
  have hsf := run_store_float Try.prog
  have hsc := run_store_complex Try.prog
  have hl := h.len
  have hx8 := x.toNat_lt
  have hlen : 1 ≤ bs.length := by rw [hb]; simp
  have hl0 : 0 < bs.length := hlen
  have hl0i : (0 : Int) < (bs.length : Int) := by omega
  obtain ⟨A1, hsl, s1⟩ := slice_from h 1 hlen
  have hr : bs.drop 1 = r := by rw [hb]; rfl
  have hrl : bs.length - 1 = r.length := by rw [hb]; simp
  rw [hr] at s1
  rw [hrl] at hsl
  have hat : at8 bs 0 = (x.toNat : Int) := by rw [hb]; rfl
  obtain ⟨b, off, rfl, hc⟩ := h.rd hlen
  have hck : ∀ W, Ext w W → W.cell? ⟨b, off, none⟩ = some (.int .u8 (x.toNat : Int)) := fun W hx => by
    have := hx.cell (hc 0 hlen)
    rwa [hat, Nat.add_zero] at this
  have hsl1 : ∀ W, (Instr.slice 30 (.slice (some ⟨b, off, none⟩) bs.length c) (some (.int .i64 1)) none none).run Try.prog W = .ok (.slice A1 r.length (c - 1)) W := hsl
  have HG : Hid (GetIs bs Vl.zero 1 5) := Lib.hid (by
    obtain ⟨k1, k2⟩ := else_get (r := r) h1 h2 h3 h4 h5
    rw [hb]
    exact ⟨k2.symm, fun h => by cases h⟩)
  have i1 : ((x.toNat : Int) == 1) = false := by simp; omega
  have i2 : ((x.toNat : Int) == 2) = false := by simp; omega
  have i3 : ((x.toNat : Int) == 3) = false := by simp; omega
  have i4 : ((x.toNat : Int) == 48) = false := by simp; omega
  have i5 : ((x.toNat : Int) == 56) = false := by simp; omega
  have i6 : ((x.toNat : Int) == 64) = false := by simp; omega
  have i7 : (x.toNat : Int) < 23 := by omega
  clear h1 h2 h3 h4 h5 h6
  clear hc hat hr hrl hb hsl
  go_enter Try.func49, Try.ntmps49
  go_wp2
  refine wp_cut (fun W => Ext w W ∧ W.heap[w.heap.size]? = some (.cells #[.int .i64 0, .bool false, .int .i64 0, .float .f64 0, .complex .f64 0 0, str []] 56)) ⟨ext_alloc _ _, heap_alloc_new _ _⟩ ?_
  rintro w1 ⟨hE, hb1⟩
  refine wp_region_rg Ext rel_ext (fun _ => True) [0, 1, 2, 3, 4, 5, 6] (fun i => none) (fun _ => none) (fun _ => false) (by kernel_rfl) (by kernel_rfl) (fun _ _ _ _ => trivial) trivial (fun W N hW _ hN => ?_)
  have hEW := hW
  have hck2 := fun w' (h : Ext W w') => hck w' ((hE.trans hW).trans h)
  clear hck
  repeat (first | (apply wpR_one; (case ho => (simp only [List.getElem?_toArray, List.getElem?_cons_succ, List.getElem?_cons_zero]; try exact rfl)); (case hw => rfl); (case hl => rfl); (case hsp => rfl); (case he => rfl); (case hv => (intro w' hw'; (try (have hw2 := Ext.trans hEW hw')); (try (have hw3 := Exc.trans hEW hw')); (try (have hw4 := Exk.trans hEW hw')); (try (have hw5 := Mrk.trans hEW hw')); go_simp; exact rfl)); (case hw0 => (first | exact Below.refl _ _ | exact Exc.of_ext (Below.refl _ _) | exact Exk.of_ext (Below.refl _ _) | exact Mrk.of_ext (Below.refl _ _))); simp only [Act.put, List.setIfInBounds_toArray, List.set_cons_succ, List.set_cons_zero]) | (apply wpR_early; (case ho => (simp only [List.getElem?_toArray, List.getElem?_cons_succ, List.getElem?_cons_zero]; try exact rfl)); (case hw => rfl); (case hl => rfl); (case hsp => rfl); (case he => rfl); (case hv => (intro w' hw'; (try have hw2 := Ext.trans hEW hw'); go_simp; exact rfl)); simp only [Act.put, List.setIfInBounds_toArray, List.set_cons_succ, List.set_cons_zero]) | (apply wpR_pass; (case ho => (simp only [List.getElem?_toArray, List.getElem?_cons_succ, List.getElem?_cons_zero]; try exact rfl)); (case hw => rfl); (case hl => rfl); simp only [Act.put, List.setIfInBounds_toArray, List.set_cons_succ, List.set_cons_zero]))
  apply wpR_nil
  apply hN
  intro w2 hE' hK _
  have hb2 := hE'.blk (hW.blk hb1)
  have hE2 := (hE.trans hW).trans hE'
  have s2 := s1.ext hE2
  clear hK hN hck2 hEW hE' hb1 hW s1 hE hsl1
  have hb3 := (ext_alloc w2 (Obj.cells #[.int .i64 0, .bool false, .int .i64 0, .float .f64 0, .complex .f64 0 0, str []] 56)).blk hb2
  have hE3 := hE2.trans (ext_alloc w2 (Obj.cells #[.int .i64 0, .bool false, .int .i64 0, .float .f64 0, .complex .f64 0 0, str []] 56))
  go_wp2_with (refine wpList_store_box rfl 56 _ _ rfl w.heap.size _ rfl rfl 56 _ hb3 (by kernel_rfl) rfl (by simp [Value.oneCell']) ?_; intro w2 hb hgr)
  have hE4 := ext_only hE3 hgr (Nat.le_refl _)
  go_wp2
  exact bodyPost_ret (results_crr rfl _ _ _ _ _ _ _ rfl hb Try.underlying56 rfl (by kernel_rfl)) rfl ⟨Vl.zero, 1, 5, rfl, HG.out, hE4⟩
set_option maxRecDepth 100000 in
set_option maxHeartbeats 2000000 in
theorem get_up (h : Sl w A c bs) (hb : bs = x :: r) (h1 : ¬ (1 ≤ x.toNat ∧ x.toNat ≤ 3)) (h2 : ¬ (23 ≤ x.toNat ∧ x.toNat ≤ 40)) (h3 : ¬ x.toNat = 48) (h4 : ¬ x.toNat = 56) (h5 : ¬ x.toNat = 64) (h6 : ¬ x.toNat < 23) : Calls Try.prog 49 #[.slice A bs.length c] w fun e w' => ∃ (v : Vl) (n e2 : Int), e = .returned (.tuple #[v.p, .int .i64 n, .int .i64 e2]) ∧ GetIs bs v n e2 ∧ Ext w w' := by
  have hsf := run_store_float Try.prog
  have hsc := run_store_complex Try.prog
  have hl := h.len
  have hx8 := x.toNat_lt
  have hlen : 1 ≤ bs.length := by rw [hb]; simp
  have hl0 : 0 < bs.length := hlen
  have hl0i : (0 : Int) < (bs.length : Int) := by omega
  obtain ⟨A1, hsl, s1⟩ := slice_from h 1 hlen
  have hr : bs.drop 1 = r := by rw [hb]; rfl
  have hrl : bs.length - 1 = r.length := by rw [hb]; simp
  rw [hr] at s1
  rw [hrl] at hsl
  have hat : at8 bs 0 = (x.toNat : Int) := by rw [hb]; rfl
  obtain ⟨b, off, rfl, hc⟩ := h.rd hlen
  have hck : ∀ W, Ext w W → W.cell? ⟨b, off, none⟩ = some (.int .u8 (x.toNat : Int)) := fun W hx => by
    have := hx.cell (hc 0 hlen)
    rwa [hat, Nat.add_zero] at this
  have hsl1 : ∀ W, (Instr.slice 30 (.slice (some ⟨b, off, none⟩) bs.length c) (some (.int .i64 1)) none none).run Try.prog W = .ok (.slice A1 r.length (c - 1)) W := hsl
  have HG : Hid (GetIs bs Vl.zero 1 5) := Lib.hid (by
    obtain ⟨k1, k2⟩ := else_get (r := r) h1 h2 h3 h4 h5
    rw [hb]
    exact ⟨k2.symm, fun h => by cases h⟩)
  have i1 : ((x.toNat : Int) == 1) = false := by simp; omega
  have i2 : ((x.toNat : Int) == 2) = false := by simp; omega
  have i3 : ((x.toNat : Int) == 3) = false := by simp; omega
  have i4 : ((x.toNat : Int) == 48) = false := by simp; omega
  have i5 : ((x.toNat : Int) == 56) = false := by simp; omega
  have i6 : ((x.toNat : Int) == 64) = false := by simp; omega
  have i7 : 23 ≤ (x.toNat : Int) := by omega
  have i8 : 40 < (x.toNat : Int) := by omega
  clear h1 h2 h3 h4 h5 h6
  clear hc hat hr hrl hb hsl
  go_enter Try.func49, Try.ntmps49
  go_wp2
  refine wp_cut (fun W => Ext w W ∧ W.heap[w.heap.size]? = some (.cells #[.int .i64 0, .bool false, .int .i64 0, .float .f64 0, .complex .f64 0 0, str []] 56)) ⟨ext_alloc _ _, heap_alloc_new _ _⟩ ?_
  rintro w1 ⟨hE, hb1⟩
  refine wp_region_rg Ext rel_ext (fun _ => True) [0, 1, 2, 3, 4, 5, 6] (fun i => none) (fun _ => none) (fun _ => false) (by kernel_rfl) (by kernel_rfl) (fun _ _ _ _ => trivial) trivial (fun W N hW _ hN => ?_)
  have hEW := hW
  have hck2 := fun w' (h : Ext W w') => hck w' ((hE.trans hW).trans h)
  clear hck
  repeat (first | (apply wpR_one; (case ho => (simp only [List.getElem?_toArray, List.getElem?_cons_succ, List.getElem?_cons_zero]; try exact rfl)); (case hw => rfl); (case hl => rfl); (case hsp => rfl); (case he => rfl); (case hv => (intro w' hw'; (try (have hw2 := Ext.trans hEW hw')); (try (have hw3 := Exc.trans hEW hw')); (try (have hw4 := Exk.trans hEW hw')); (try (have hw5 := Mrk.trans hEW hw')); go_simp; exact rfl)); (case hw0 => (first | exact Below.refl _ _ | exact Exc.of_ext (Below.refl _ _) | exact Exk.of_ext (Below.refl _ _) | exact Mrk.of_ext (Below.refl _ _))); simp only [Act.put, List.setIfInBounds_toArray, List.set_cons_succ, List.set_cons_zero]) | (apply wpR_early; (case ho => (simp only [List.getElem?_toArray, List.getElem?_cons_succ, List.getElem?_cons_zero]; try exact rfl)); (case hw => rfl); (case hl => rfl); (case hsp => rfl); (case he => rfl); (case hv => (intro w' hw'; (try have hw2 := Ext.trans hEW hw'); go_simp; exact rfl)); simp only [Act.put, List.setIfInBounds_toArray, List.set_cons_succ, List.set_cons_zero]) | (apply wpR_pass; (case ho => (simp only [List.getElem?_toArray, List.getElem?_cons_succ, List.getElem?_cons_zero]; try exact rfl)); (case hw => rfl); (case hl => rfl); simp only [Act.put, List.setIfInBounds_toArray, List.set_cons_succ, List.set_cons_zero]))
  apply wpR_nil
  apply hN
  intro w2 hE' hK _
  have hb2 := hE'.blk (hW.blk hb1)
  have hE2 := (hE.trans hW).trans hE'
  have s2 := s1.ext hE2
  clear hK hN hck2 hEW hE' hb1 hW s1 hE hsl1
  have hb3 := (ext_alloc w2 (Obj.cells #[.int .i64 0, .bool false, .int .i64 0, .float .f64 0, .complex .f64 0 0, str []] 56)).blk hb2
  have hE3 := hE2.trans (ext_alloc w2 (Obj.cells #[.int .i64 0, .bool false, .int .i64 0, .float .f64 0, .complex .f64 0 0, str []] 56))
  go_wp2_with (refine wpList_store_box rfl 56 _ _ rfl w.heap.size _ rfl rfl 56 _ hb3 (by kernel_rfl) rfl (by simp [Value.oneCell']) ?_; intro w2 hb hgr)
  have hE4 := ext_only hE3 hgr (Nat.le_refl _)
  go_wp2
  exact bodyPost_ret (results_crr rfl _ _ _ _ _ _ _ rfl hb Try.underlying56 rfl (by kernel_rfl)) rfl ⟨Vl.zero, 1, 5, rfl, HG.out, hE4⟩
theorem whole_n {i n e2 : Int} {t : Nat} (hw : WholeIs t r i n e2) : 0 ≤ n ∧ n ≤ 8 := hw.1
theorem whole_get (h1 : 23 ≤ x.toNat) (h2 : x.toNat ≤ 40) {i n e2 : Int} (hw : WholeIs x.toNat r i n e2) : GetIs (x :: r) { Vl.zero with kind := 2, int := i } (1 + n) e2 := by
  obtain ⟨_, w1, w2⟩ := hw
  by_cases hs : r.length < intN x.toNat
  · have e := w1 hs
    subst e
    exact ⟨(int_short h1 h2 hs).symm, fun h => by cases h⟩
  · obtain ⟨w3, w4⟩ := w2 (by omega)
    obtain ⟨k1, k2⟩ := int_get (r := r) h1 h2 (by omega) _ rfl
    by_cases hk : widthN (intX x.toNat (bN (r.take (intN x.toNat))) (intN x.toNat)) = intN x.toNat ∧ intX x.toNat (bN (r.take (intN x.toNat))) (intN x.toNat) < 9223372036854775808
    · obtain ⟨rfl, rfl, rfl⟩ := w3 hk
      obtain ⟨k3, k4, k5⟩ := k1 hk
      exact ⟨k3.symm, fun _ => ⟨k5.symm, by rw [k4]; omega⟩⟩
    · have e := w4 hk
      subst e
      exact ⟨(k2 hk).symm, fun h => by cases h⟩
set_option maxRecDepth 100000 in
set_option maxHeartbeats 2000000 in
theorem get_int (h : Sl w A c bs) (hb : bs = x :: r) (h1 : 23 ≤ x.toNat) (h2 : x.toNat ≤ 40) : Calls Try.prog 49 #[.slice A bs.length c] w fun e w' => ∃ (v : Vl) (n e2 : Int), e = .returned (.tuple #[v.p, .int .i64 n, .int .i64 e2]) ∧ GetIs bs v n e2 ∧ Ext w w' := by
  have hsf := run_store_float Try.prog
  have hsc := run_store_complex Try.prog
  have hl := h.len
  have hx8 := x.toNat_lt
  have hlen : 1 ≤ bs.length := by rw [hb]; simp
  have hl0 : 0 < bs.length := hlen
  have hl0i : (0 : Int) < (bs.length : Int) := by omega
  obtain ⟨A1, hsl, s1⟩ := slice_from h 1 hlen
  have hr : bs.drop 1 = r := by rw [hb]; rfl
  have hrl : bs.length - 1 = r.length := by rw [hb]; simp
  rw [hr] at s1
  rw [hrl] at hsl
  have hat : at8 bs 0 = (x.toNat : Int) := by rw [hb]; rfl
  obtain ⟨b, off, rfl, hc⟩ := h.rd hlen
  have hck : ∀ W, Ext w W → W.cell? ⟨b, off, none⟩ = some (.int .u8 (x.toNat : Int)) := fun W hx => by
    have := hx.cell (hc 0 hlen)
    rwa [hat, Nat.add_zero] at this
  have hsl1 : ∀ W, (Instr.slice 30 (.slice (some ⟨b, off, none⟩) bs.length c) (some (.int .i64 1)) none none).run Try.prog W = .ok (.slice A1 r.length (c - 1)) W := hsl
  have HG : Hid (∀ (i n e2 : Int), WholeIs x.toNat r i n e2 → GetIs bs { Vl.zero with kind := 2, int := i } (1 + n) e2) := Lib.hid (fun i n e2 hw => by
    rw [hb]
    exact whole_get h1 h2 hw)
  have i1 : ((x.toNat : Int) == 1) = false := by simp; omega
  have i2 : ((x.toNat : Int) == 2) = false := by simp; omega
  have i3 : ((x.toNat : Int) == 3) = false := by simp; omega
  have i7 : 23 ≤ (x.toNat : Int) := by omega
  have i8 : (x.toNat : Int) ≤ 40 := by omega
  have HWH := fun W (hx : Ext w W) => whole_any (w := W) (s1.ext hx) h1 h2
  clear h1 h2
  clear hc hat hr hrl hb hsl
  go_enter Try.func49, Try.ntmps49
  go_wp2
  refine wp_cut (fun W => Ext w W ∧ W.heap[w.heap.size]? = some (.cells #[.int .i64 0, .bool false, .int .i64 0, .float .f64 0, .complex .f64 0 0, str []] 56)) ⟨ext_alloc _ _, heap_alloc_new _ _⟩ ?_
  rintro w1 ⟨hE, hb1⟩
  refine wp_region_rg Ext rel_ext (fun _ => True) [0, 1, 2, 3, 4, 5, 6] (fun i => none) (fun _ => none) (fun _ => false) (by kernel_rfl) (by kernel_rfl) (fun _ _ _ _ => trivial) trivial (fun W N hW _ hN => ?_)
  have hEW := hW
  have hck2 := fun w' (h : Ext W w') => hck w' ((hE.trans hW).trans h)
  clear hck
  repeat (first | (apply wpR_one; (case ho => (simp only [List.getElem?_toArray, List.getElem?_cons_succ, List.getElem?_cons_zero]; try exact rfl)); (case hw => rfl); (case hl => rfl); (case hsp => rfl); (case he => rfl); (case hv => (intro w' hw'; (try (have hw2 := Ext.trans hEW hw')); (try (have hw3 := Exc.trans hEW hw')); (try (have hw4 := Exk.trans hEW hw')); (try (have hw5 := Mrk.trans hEW hw')); go_simp; exact rfl)); (case hw0 => (first | exact Below.refl _ _ | exact Exc.of_ext (Below.refl _ _) | exact Exk.of_ext (Below.refl _ _) | exact Mrk.of_ext (Below.refl _ _))); simp only [Act.put, List.setIfInBounds_toArray, List.set_cons_succ, List.set_cons_zero]) | (apply wpR_early; (case ho => (simp only [List.getElem?_toArray, List.getElem?_cons_succ, List.getElem?_cons_zero]; try exact rfl)); (case hw => rfl); (case hl => rfl); (case hsp => rfl); (case he => rfl); (case hv => (intro w' hw'; (try have hw2 := Ext.trans hEW hw'); go_simp; exact rfl)); simp only [Act.put, List.setIfInBounds_toArray, List.set_cons_succ, List.set_cons_zero]) | (apply wpR_pass; (case ho => (simp only [List.getElem?_toArray, List.getElem?_cons_succ, List.getElem?_cons_zero]; try exact rfl)); (case hw => rfl); (case hl => rfl); simp only [Act.put, List.setIfInBounds_toArray, List.set_cons_succ, List.set_cons_zero]))
  apply wpR_nil
  apply hN
  intro w2 hE' hK _
  have hb2 := hE'.blk (hW.blk hb1)
  have hE2 := (hE.trans hW).trans hE'
  have s2 := s1.ext hE2
  clear hK hN hck2 hEW hE' hb1 hW s1 hE hsl1
  clear s2
  go_wp2_with fail
  refine calls_cut3 (fun W => Ext w W ∧ W.heap[w.heap.size]? = some (.cells #[.int .i64 0, .bool false, .int .i64 0, .float .f64 0, .complex .f64 0 0, str []] 56) ∧ W.heap[w2.heap.size]? = some (.cells #[.int .i64 2, .bool false, .int .i64 0, .float .f64 0, .complex .f64 0 0, str []] 56)) ⟨hE2.trans (ext_alloc _ _), (ext_alloc w2 _).blk hb2, heap_alloc_new _ _⟩ ?_
  have hlt0 := (Array.getElem?_eq_some_iff.1 hb2).1
  clear hb2
  rintro W ⟨hE3, hb3, hb4⟩
  refine (HWH W hE3).mono ?_
  rintro e w4 ⟨i, n, e2, rfl, hw, rfl⟩
  have hnb := whole_n hw
  have HG2 := Lib.hid (HG.out i n e2 hw)
  clear HWH HG hw
  have q0 := cell_of_row W w2.heap.size 0 _ _ _ hb4
  have q1 := cell_of_row W w2.heap.size 1 _ _ _ hb4
  have q2 := cell_of_row W w2.heap.size 2 _ _ _ hb4
  have q3 := cell_of_row W w2.heap.size 3 _ _ _ hb4
  have q4 := cell_of_row W w2.heap.size 4 _ _ _ hb4
  have q5 := cell_of_row W w2.heap.size 5 _ _ _ hb4
  have fj := frozen_of_row W w2.heap.size 2 _ _ hb4
  simp only [List.getElem?_toArray, List.getElem?_cons_zero, List.getElem?_cons_succ] at q0 q1 q2 q3 q4 q5
  have hlt := (Array.getElem?_eq_some_iff.1 hb3).1
  have hb5 := heap_other W (j := 2) (.int .i64 i) hb3 (show w2.heap.size ≠ w.heap.size by omega)
  have hE5 := ext_store hE3 (p := ⟨w2.heap.size, 2, none⟩) (show w.heap.size ≤ w2.heap.size by omega) (.int .i64 i)
  go_wp2_with (refine wpList_store_box rfl 56 _ _ rfl w.heap.size _ rfl rfl 56 _ hb5 (by kernel_rfl) rfl (by simp [Value.oneCell']) ?_; intro w6 hb hgr)
  have hE6 := ext_only hE5 hgr (Nat.le_refl _)
  go_wp2
  exact bodyPost_ret (results_crr rfl _ _ _ _ _ _ _ rfl hb Try.underlying56 rfl (by kernel_rfl)) rfl ⟨{ Vl.zero with kind := 2, int := i }, 1 + n, e2, rfl, HG2.out, hE6⟩
set_option maxRecDepth 100000 in
set_option maxHeartbeats 2000000 in
theorem get_48 (h : Sl w A c bs) (hb : bs = x :: r) (hx : x = 48) : Calls Try.prog 49 #[.slice A bs.length c] w fun e w' => ∃ (v : Vl) (n e2 : Int), e = .returned (.tuple #[v.p, .int .i64 n, .int .i64 e2]) ∧ GetIs bs v n e2 ∧ Ext w w' := by
  have hsf := run_store_float Try.prog
  have hsc := run_store_complex Try.prog
  have hl := h.len
  have hx8 := x.toNat_lt
  have hlen : 1 ≤ bs.length := by rw [hb]; simp
  have hl0 : 0 < bs.length := hlen
  have hl0i : (0 : Int) < (bs.length : Int) := by omega
  obtain ⟨A1, hsl, s1⟩ := slice_from h 1 hlen
  have hr : bs.drop 1 = r := by rw [hb]; rfl
  have hrl : bs.length - 1 = r.length := by rw [hb]; simp
  rw [hr] at s1
  rw [hrl] at hsl
  have hat : at8 bs 0 = (x.toNat : Int) := by rw [hb]; rfl
  obtain ⟨b, off, rfl, hc⟩ := h.rd hlen
  have hck : ∀ W, Ext w W → W.cell? ⟨b, off, none⟩ = some (.int .u8 (x.toNat : Int)) := fun W hx => by
    have := hx.cell (hc 0 hlen)
    rwa [hat, Nat.add_zero] at this
  have hsl1 : ∀ W, (Instr.slice 30 (.slice (some ⟨b, off, none⟩) bs.length c) (some (.int .i64 1)) none none).run Try.prog W = .ok (.slice A1 r.length (c - 1)) W := hsl
  have HFL := fun W (hx2 : Ext w W) => floating_48 (w := W) (s1.ext hx2)
  have hbk : bs = 48 :: r := by rw [hb, hx]
  rw [← hbk] at HFL
  have hxi : (x.toNat : Int) = 48 := by rw [hx]; rfl
  rw [hxi] at hck
  clear hbk hx
  clear hc hat hr hrl hb hsl
  go_enter Try.func49, Try.ntmps49
  go_wp2
  refine wp_cut (fun W => Ext w W ∧ W.heap[w.heap.size]? = some (.cells #[.int .i64 0, .bool false, .int .i64 0, .float .f64 0, .complex .f64 0 0, str []] 56)) ⟨ext_alloc _ _, heap_alloc_new _ _⟩ ?_
  rintro w1 ⟨hE, hb1⟩
  refine wp_region_rg Ext rel_ext (fun _ => True) [0, 1, 2, 3, 4, 5, 6] (fun i => none) (fun _ => none) (fun _ => false) (by kernel_rfl) (by kernel_rfl) (fun _ _ _ _ => trivial) trivial (fun W N hW _ hN => ?_)
  have hEW := hW
  have hck2 := fun w' (h : Ext W w') => hck w' ((hE.trans hW).trans h)
  clear hck
  repeat (first | (apply wpR_one; (case ho => (simp only [List.getElem?_toArray, List.getElem?_cons_succ, List.getElem?_cons_zero]; try exact rfl)); (case hw => rfl); (case hl => rfl); (case hsp => rfl); (case he => rfl); (case hv => (intro w' hw'; (try (have hw2 := Ext.trans hEW hw')); (try (have hw3 := Exc.trans hEW hw')); (try (have hw4 := Exk.trans hEW hw')); (try (have hw5 := Mrk.trans hEW hw')); go_simp; exact rfl)); (case hw0 => (first | exact Below.refl _ _ | exact Exc.of_ext (Below.refl _ _) | exact Exk.of_ext (Below.refl _ _) | exact Mrk.of_ext (Below.refl _ _))); simp only [Act.put, List.setIfInBounds_toArray, List.set_cons_succ, List.set_cons_zero]) | (apply wpR_early; (case ho => (simp only [List.getElem?_toArray, List.getElem?_cons_succ, List.getElem?_cons_zero]; try exact rfl)); (case hw => rfl); (case hl => rfl); (case hsp => rfl); (case he => rfl); (case hv => (intro w' hw'; (try have hw2 := Ext.trans hEW hw'); go_simp; exact rfl)); simp only [Act.put, List.setIfInBounds_toArray, List.set_cons_succ, List.set_cons_zero]) | (apply wpR_pass; (case ho => (simp only [List.getElem?_toArray, List.getElem?_cons_succ, List.getElem?_cons_zero]; try exact rfl)); (case hw => rfl); (case hl => rfl); simp only [Act.put, List.setIfInBounds_toArray, List.set_cons_succ, List.set_cons_zero]))
  apply wpR_nil
  apply hN
  intro w2 hE' hK _
  have hb2 := hE'.blk (hW.blk hb1)
  have hE2 := (hE.trans hW).trans hE'
  have s2 := s1.ext hE2
  clear hK hN hck2 hEW hE' hb1 hW s1 hE hsl1
  clear s2
  go_wp2_with fail
  refine calls_cut3 (fun W => Ext w W ∧ W.heap[w.heap.size]? = some (.cells #[.int .i64 0, .bool false, .int .i64 0, .float .f64 0, .complex .f64 0 0, str []] 56) ∧ W.heap[w2.heap.size]? = some (.cells #[.int .i64 0, .bool false, .int .i64 0, .float .f64 0, .complex .f64 0 0, str []] 56)) ⟨hE2.trans (ext_alloc _ _), (ext_alloc w2 _).blk hb2, heap_alloc_new _ _⟩ ?_
  have hlt0 := (Array.getElem?_eq_some_iff.1 hb2).1
  clear hb2
  rintro W ⟨hE3, hb3, hb4⟩
  refine (HFL W hE3).mono ?_
  rintro e w4 ⟨v, n, e2, rfl, hg, hE4⟩
  have hb5 := hE4.blk hb3
  have hE5 := hE3.trans hE4
  have HG := Lib.hid hg
  clear HFL hg
  go_wp2_with (refine wpList_store_box rfl 56 _ _ rfl w.heap.size _ rfl rfl 56 _ hb5 (by kernel_rfl) rfl (by simp [Value.oneCell']) ?_; intro w6 hb hgr)
  have hE6 := ext_only hE5 hgr (Nat.le_refl _)
  go_wp2
  exact bodyPost_ret (results_crr rfl _ _ _ _ _ _ _ rfl hb Try.underlying56 rfl (by kernel_rfl)) rfl ⟨v, n, e2, rfl, HG.out, hE6⟩
set_option maxRecDepth 100000 in
set_option maxHeartbeats 2000000 in
theorem get_56 (h : Sl w A c bs) (hb : bs = x :: r) (hx : x = 56) : Calls Try.prog 49 #[.slice A bs.length c] w fun e w' => ∃ (v : Vl) (n e2 : Int), e = .returned (.tuple #[v.p, .int .i64 n, .int .i64 e2]) ∧ GetIs bs v n e2 ∧ Ext w w' := by
  have hsf := run_store_float Try.prog
  have hsc := run_store_complex Try.prog
  have hl := h.len
  have hx8 := x.toNat_lt
  have hlen : 1 ≤ bs.length := by rw [hb]; simp
  have hl0 : 0 < bs.length := hlen
  have hl0i : (0 : Int) < (bs.length : Int) := by omega
  obtain ⟨A1, hsl, s1⟩ := slice_from h 1 hlen
  have hr : bs.drop 1 = r := by rw [hb]; rfl
  have hrl : bs.length - 1 = r.length := by rw [hb]; simp
  rw [hr] at s1
  rw [hrl] at hsl
  have hat : at8 bs 0 = (x.toNat : Int) := by rw [hb]; rfl
  obtain ⟨b, off, rfl, hc⟩ := h.rd hlen
  have hck : ∀ W, Ext w W → W.cell? ⟨b, off, none⟩ = some (.int .u8 (x.toNat : Int)) := fun W hx => by
    have := hx.cell (hc 0 hlen)
    rwa [hat, Nat.add_zero] at this
  have hsl1 : ∀ W, (Instr.slice 30 (.slice (some ⟨b, off, none⟩) bs.length c) (some (.int .i64 1)) none none).run Try.prog W = .ok (.slice A1 r.length (c - 1)) W := hsl
  have HFL := fun W (hx2 : Ext w W) => floating_56 (w := W) (s1.ext hx2)
  have hbk : bs = 56 :: r := by rw [hb, hx]
  rw [← hbk] at HFL
  have hxi : (x.toNat : Int) = 56 := by rw [hx]; rfl
  rw [hxi] at hck
  clear hbk hx
  clear hc hat hr hrl hb hsl
  go_enter Try.func49, Try.ntmps49
  go_wp2
  refine wp_cut (fun W => Ext w W ∧ W.heap[w.heap.size]? = some (.cells #[.int .i64 0, .bool false, .int .i64 0, .float .f64 0, .complex .f64 0 0, str []] 56)) ⟨ext_alloc _ _, heap_alloc_new _ _⟩ ?_
  rintro w1 ⟨hE, hb1⟩
  refine wp_region_rg Ext rel_ext (fun _ => True) [0, 1, 2, 3, 4, 5, 6] (fun i => none) (fun _ => none) (fun _ => false) (by kernel_rfl) (by kernel_rfl) (fun _ _ _ _ => trivial) trivial (fun W N hW _ hN => ?_)
  have hEW := hW
  have hck2 := fun w' (h : Ext W w') => hck w' ((hE.trans hW).trans h)
  clear hck
  repeat (first | (apply wpR_one; (case ho => (simp only [List.getElem?_toArray, List.getElem?_cons_succ, List.getElem?_cons_zero]; try exact rfl)); (case hw => rfl); (case hl => rfl); (case hsp => rfl); (case he => rfl); (case hv => (intro w' hw'; (try (have hw2 := Ext.trans hEW hw')); (try (have hw3 := Exc.trans hEW hw')); (try (have hw4 := Exk.trans hEW hw')); (try (have hw5 := Mrk.trans hEW hw')); go_simp; exact rfl)); (case hw0 => (first | exact Below.refl _ _ | exact Exc.of_ext (Below.refl _ _) | exact Exk.of_ext (Below.refl _ _) | exact Mrk.of_ext (Below.refl _ _))); simp only [Act.put, List.setIfInBounds_toArray, List.set_cons_succ, List.set_cons_zero]) | (apply wpR_early; (case ho => (simp only [List.getElem?_toArray, List.getElem?_cons_succ, List.getElem?_cons_zero]; try exact rfl)); (case hw => rfl); (case hl => rfl); (case hsp => rfl); (case he => rfl); (case hv => (intro w' hw'; (try have hw2 := Ext.trans hEW hw'); go_simp; exact rfl)); simp only [Act.put, List.setIfInBounds_toArray, List.set_cons_succ, List.set_cons_zero]) | (apply wpR_pass; (case ho => (simp only [List.getElem?_toArray, List.getElem?_cons_succ, List.getElem?_cons_zero]; try exact rfl)); (case hw => rfl); (case hl => rfl); simp only [Act.put, List.setIfInBounds_toArray, List.set_cons_succ, List.set_cons_zero]))
  apply wpR_nil
  apply hN
  intro w2 hE' hK _
  have hb2 := hE'.blk (hW.blk hb1)
  have hE2 := (hE.trans hW).trans hE'
  have s2 := s1.ext hE2
  clear hK hN hck2 hEW hE' hb1 hW s1 hE hsl1
  clear s2
  go_wp2_with fail
  refine calls_cut3 (fun W => Ext w W ∧ W.heap[w.heap.size]? = some (.cells #[.int .i64 0, .bool false, .int .i64 0, .float .f64 0, .complex .f64 0 0, str []] 56) ∧ W.heap[w2.heap.size]? = some (.cells #[.int .i64 0, .bool false, .int .i64 0, .float .f64 0, .complex .f64 0 0, str []] 56)) ⟨hE2.trans (ext_alloc _ _), (ext_alloc w2 _).blk hb2, heap_alloc_new _ _⟩ ?_
  have hlt0 := (Array.getElem?_eq_some_iff.1 hb2).1
  clear hb2
  rintro W ⟨hE3, hb3, hb4⟩
  refine (HFL W hE3).mono ?_
  rintro e w4 ⟨v, n, e2, rfl, hg, hE4⟩
  have hb5 := hE4.blk hb3
  have hE5 := hE3.trans hE4
  have HG := Lib.hid hg
  clear HFL hg
  go_wp2_with (refine wpList_store_box rfl 56 _ _ rfl w.heap.size _ rfl rfl 56 _ hb5 (by kernel_rfl) rfl (by simp [Value.oneCell']) ?_; intro w6 hb hgr)
  have hE6 := ext_only hE5 hgr (Nat.le_refl _)
  go_wp2
  exact bodyPost_ret (results_crr rfl _ _ _ _ _ _ _ rfl hb Try.underlying56 rfl (by kernel_rfl)) rfl ⟨v, n, e2, rfl, HG.out, hE6⟩
set_option maxRecDepth 100000 in
set_option maxHeartbeats 2000000 in
theorem get_64 (h : Sl w A c bs) (hb : bs = x :: r) (hx : x = 64) : Calls Try.prog 49 #[.slice A bs.length c] w fun e w' => ∃ (v : Vl) (n e2 : Int), e = .returned (.tuple #[v.p, .int .i64 n, .int .i64 e2]) ∧ GetIs bs v n e2 ∧ Ext w w' := by
  have hsf := run_store_float Try.prog
  have hsc := run_store_complex Try.prog
  have hl := h.len
  have hx8 := x.toNat_lt
  have hlen : 1 ≤ bs.length := by rw [hb]; simp
  have hl0 : 0 < bs.length := hlen
  have hl0i : (0 : Int) < (bs.length : Int) := by omega
  obtain ⟨A1, hsl, s1⟩ := slice_from h 1 hlen
  have hr : bs.drop 1 = r := by rw [hb]; rfl
  have hrl : bs.length - 1 = r.length := by rw [hb]; simp
  rw [hr] at s1
  rw [hrl] at hsl
  have hat : at8 bs 0 = (x.toNat : Int) := by rw [hb]; rfl
  obtain ⟨b, off, rfl, hc⟩ := h.rd hlen
  have hck : ∀ W, Ext w W → W.cell? ⟨b, off, none⟩ = some (.int .u8 (x.toNat : Int)) := fun W hx => by
    have := hx.cell (hc 0 hlen)
    rwa [hat, Nat.add_zero] at this
  have hsl1 : ∀ W, (Instr.slice 30 (.slice (some ⟨b, off, none⟩) bs.length c) (some (.int .i64 1)) none none).run Try.prog W = .ok (.slice A1 r.length (c - 1)) W := hsl
  have HG : Hid (∀ (t : List UInt8) (n e2 : Int), (txtL r ≤ r.length → t = unT r ∧ n = (txtL r : Int) ∧ e2 = 0) → (r.length < txtL r → e2 = 2 ∧ n = 0) → GetIs bs { Vl.zero with kind := 5, text := t } (1 + n) e2 ∧ 0 ≤ n ∧ n ≤ 140737488355329) := Lib.hid (fun t n e2 k1 k2 => by
    obtain ⟨k3, k4, k5⟩ := text_get (c := 64) (r := r) rfl
    have hll := s1.len
    rw [hb, hx]
    by_cases hs : txtL r ≤ r.length
    · obtain ⟨rfl, rfl, rfl⟩ := k1 hs
      exact ⟨⟨(k5 hs).1.symm, fun _ => ⟨(k5 hs).2.symm, by rw [k3]; omega⟩⟩, by omega, by omega⟩
    · obtain ⟨rfl, rfl⟩ := k2 (by omega)
      exact ⟨⟨(k4 (by omega)).symm, fun h => by cases h⟩, by omega, by omega⟩)
  have HTX := fun W (hx2 : Ext w W) => text_any (w := W) (s1.ext hx2)
  have hxi : (x.toNat : Int) = 64 := by rw [hx]; rfl
  rw [hxi] at hck
  clear hx
  clear hc hat hr hrl hb hsl
  go_enter Try.func49, Try.ntmps49
  go_wp2
  refine wp_cut (fun W => Ext w W ∧ W.heap[w.heap.size]? = some (.cells #[.int .i64 0, .bool false, .int .i64 0, .float .f64 0, .complex .f64 0 0, str []] 56)) ⟨ext_alloc _ _, heap_alloc_new _ _⟩ ?_
  rintro w1 ⟨hE, hb1⟩
  refine wp_region_rg Ext rel_ext (fun _ => True) [0, 1, 2, 3, 4, 5, 6] (fun i => none) (fun _ => none) (fun _ => false) (by kernel_rfl) (by kernel_rfl) (fun _ _ _ _ => trivial) trivial (fun W N hW _ hN => ?_)
  have hEW := hW
  have hck2 := fun w' (h : Ext W w') => hck w' ((hE.trans hW).trans h)
  clear hck
  repeat (first | (apply wpR_one; (case ho => (simp only [List.getElem?_toArray, List.getElem?_cons_succ, List.getElem?_cons_zero]; try exact rfl)); (case hw => rfl); (case hl => rfl); (case hsp => rfl); (case he => rfl); (case hv => (intro w' hw'; (try (have hw2 := Ext.trans hEW hw')); (try (have hw3 := Exc.trans hEW hw')); (try (have hw4 := Exk.trans hEW hw')); (try (have hw5 := Mrk.trans hEW hw')); go_simp; exact rfl)); (case hw0 => (first | exact Below.refl _ _ | exact Exc.of_ext (Below.refl _ _) | exact Exk.of_ext (Below.refl _ _) | exact Mrk.of_ext (Below.refl _ _))); simp only [Act.put, List.setIfInBounds_toArray, List.set_cons_succ, List.set_cons_zero]) | (apply wpR_early; (case ho => (simp only [List.getElem?_toArray, List.getElem?_cons_succ, List.getElem?_cons_zero]; try exact rfl)); (case hw => rfl); (case hl => rfl); (case hsp => rfl); (case he => rfl); (case hv => (intro w' hw'; (try have hw2 := Ext.trans hEW hw'); go_simp; exact rfl)); simp only [Act.put, List.setIfInBounds_toArray, List.set_cons_succ, List.set_cons_zero]) | (apply wpR_pass; (case ho => (simp only [List.getElem?_toArray, List.getElem?_cons_succ, List.getElem?_cons_zero]; try exact rfl)); (case hw => rfl); (case hl => rfl); simp only [Act.put, List.setIfInBounds_toArray, List.set_cons_succ, List.set_cons_zero]))
  apply wpR_nil
  apply hN
  intro w2 hE' hK _
  have hb2 := hE'.blk (hW.blk hb1)
  have hE2 := (hE.trans hW).trans hE'
  have s2 := s1.ext hE2
  clear hK hN hck2 hEW hE' hb1 hW s1 hE hsl1
  clear s2
  go_wp2_with fail
  refine calls_cut3 (fun W => Ext w W ∧ W.heap[w.heap.size]? = some (.cells #[.int .i64 0, .bool false, .int .i64 0, .float .f64 0, .complex .f64 0 0, str []] 56) ∧ W.heap[w2.heap.size]? = some (.cells #[.int .i64 5, .bool false, .int .i64 0, .float .f64 0, .complex .f64 0 0, str []] 56)) ⟨hE2.trans (ext_alloc _ _), (ext_alloc w2 _).blk hb2, heap_alloc_new _ _⟩ ?_
  have hlt0 := (Array.getElem?_eq_some_iff.1 hb2).1
  clear hb2
  rintro W ⟨hE3, hb3, hb4⟩
  refine (HTX W hE3).mono ?_
  rintro e w4 ⟨t, n, e2, rfl, k1, k2, hE4⟩
  obtain ⟨hg, hn0, hn1⟩ := HG.out t n e2 k1 k2
  have HG2 := Lib.hid hg
  replace hb3 := hE4.blk hb3
  replace hb4 := hE4.blk hb4
  replace hE3 := hE3.trans hE4
  clear HTX HG k1 k2 hg hE4
  have q0 := cell_of_row w4 w2.heap.size 0 _ _ _ hb4
  have q1 := cell_of_row w4 w2.heap.size 1 _ _ _ hb4
  have q2 := cell_of_row w4 w2.heap.size 2 _ _ _ hb4
  have q3 := cell_of_row w4 w2.heap.size 3 _ _ _ hb4
  have q4 := cell_of_row w4 w2.heap.size 4 _ _ _ hb4
  have q5 := cell_of_row w4 w2.heap.size 5 _ _ _ hb4
  have fj := frozen_of_row w4 w2.heap.size 5 _ _ hb4
  simp only [List.getElem?_toArray, List.getElem?_cons_zero, List.getElem?_cons_succ] at q0 q1 q2 q3 q4 q5
  have hlt := (Array.getElem?_eq_some_iff.1 hb3).1
  have hb5 := heap_other w4 (j := 5) (str t) hb3 (show w2.heap.size ≠ w.heap.size by omega)
  have hE5 := ext_store hE3 (p := ⟨w2.heap.size, 5, none⟩) (show w.heap.size ≤ w2.heap.size by omega) (str t)
  go_wp2_with (refine wpList_store_box rfl 56 _ _ rfl w.heap.size _ rfl rfl 56 _ hb5 (by kernel_rfl) rfl (by simp [Value.oneCell']) ?_; intro w6 hb hgr)
  have hE6 := ext_only hE5 hgr (Nat.le_refl _)
  go_wp2
  exact bodyPost_ret (results_crr rfl _ _ _ _ _ _ _ rfl hb Try.underlying56 rfl (by kernel_rfl)) rfl ⟨{ Vl.zero with kind := 5, text := t }, 1 + n, e2, rfl, HG2.out, hE6⟩
theorem get_any (h : Sl w A c bs) (hn : 0 < bs.length) : Calls Try.prog 49 #[.slice A bs.length c] w fun e w' => ∃ (v : Vl) (n e2 : Int), e = .returned (.tuple #[v.p, .int .i64 n, .int .i64 e2]) ∧ GetIs bs v n e2 ∧ Ext w w' := by
  match bs, hn, h with
  | x :: r, _, h =>
    by_cases h1 : x.toNat = 1
    · exact get_1 h rfl h1
    by_cases h2 : x.toNat = 2
    · exact get_2 h rfl h2
    by_cases h3 : x.toNat = 3
    · exact get_3 h rfl h3
    by_cases h4 : 23 ≤ x.toNat ∧ x.toNat ≤ 40
    · exact get_int h rfl h4.1 h4.2
    by_cases h5 : x.toNat = 48
    · exact get_48 h rfl (UInt8.toNat_inj.1 h5)
    by_cases h6 : x.toNat = 56
    · exact get_56 h rfl (UInt8.toNat_inj.1 h6)
    by_cases h7 : x.toNat = 64
    · exact get_64 h rfl (UInt8.toNat_inj.1 h7)
    by_cases h8 : x.toNat < 23
    · exact get_lo h rfl (by omega) h4 h5 h6 h7 h8
    · exact get_up h rfl (by omega) h4 h5 h6 h7 h8
end
end Go.Proofs.Ytbjfgnkjmfcokaa
