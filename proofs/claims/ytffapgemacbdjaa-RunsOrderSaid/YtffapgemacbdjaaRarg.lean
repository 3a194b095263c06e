/- Layer 5: lists of the document's runs and of whole numbers that have come in. No condition. -/
import Derived.Test.YtffapgemacbdjaaRfi
namespace Go.Proofs.Ytffapgemacbdjaa
open Go.RowKit Go.Proofs Go.Shelf
set_option linter.unusedVariables false
/-- A slice of runs of ints. -/
structure RL (w : World) (A : Option Addr) (c : Nat) (l : List Rn) : Prop where
  rd : 0 < l.length → ∃ b off, A = some ⟨b, off, none⟩ ∧ ∀ i r, l[i]? = some r → w.cell? ⟨b, off + i * 2, none⟩ = some (.int .i64 r.lo) ∧ w.cell? ⟨b, off + i * 2 + 1, none⟩ = some (.int .i64 r.hi)
  le : l.length ≤ c
  cap : c ≤ 9223372036854775807
  bd : ∀ r ∈ l, Bdi r
theorem RL.ext {w w' : World} {A : Option Addr} {c : Nat} {l : List Rn} (h : RL w A c l) (he : Ext w w') : RL w' A c l :=
  ⟨fun hn => by obtain ⟨b, off, hA, hc⟩ := h.rd hn; exact ⟨b, off, hA, fun i r hr => ⟨he.cell (hc i r hr).1, he.cell (hc i r hr).2⟩⟩, h.le, h.cap, h.bd⟩
theorem RL.take {w : World} {A : Option Addr} {c : Nat} {l : List Rn} (h : RL w A c l) (k : Nat) : RL w A c (l.take k) :=
  ⟨fun hn => by
    obtain ⟨b, off, hA, hc⟩ := h.rd (by rw [List.length_take] at hn; omega)
    exact ⟨b, off, hA, fun i r hr => hc i r (by rw [List.getElem?_take] at hr; split at hr <;> simp_all)⟩, by have := h.le; simp; omega, h.cap, fun r hr => h.bd r (List.mem_of_mem_take hr)⟩
/-- A slice of ints. -/
structure IL (w : World) (A : Option Addr) (c : Nat) (l : List Int) : Prop where
  rd : 0 < l.length → ∃ b off, A = some ⟨b, off, none⟩ ∧ ∀ i z, l[i]? = some z → w.cell? ⟨b, off + i, none⟩ = some (.int .i64 z)
  le : l.length ≤ c
  cap : c ≤ 9223372036854775807
  bd : ∀ z ∈ l, -9223372036854775808 ≤ z ∧ z ≤ 9223372036854775807
theorem IL.ext {w w' : World} {A : Option Addr} {c : Nat} {l : List Int} (h : IL w A c l) (he : Ext w w') : IL w' A c l :=
  ⟨fun hn => by obtain ⟨b, off, hA, hc⟩ := h.rd hn; exact ⟨b, off, hA, fun i r hr => he.cell (hc i r hr)⟩, h.le, h.cap, h.bd⟩
theorem RL.at {w : World} {A : Option Addr} {c : Nat} {l : List Rn} (h : RL w A c l) {i : Nat} {r : Rn} (hr : l[i]? = some r) : ∃ b off, A = some ⟨b, off, none⟩ ∧ i < c ∧ ∀ W, Ext w W → W.cell? ⟨b, off + i * 2, none⟩ = some (.int .i64 r.lo) ∧ W.cell? ⟨b, off + i * 2 + 1, none⟩ = some (.int .i64 r.hi) := by
  have hi := (List.getElem?_eq_some_iff.1 hr).1
  obtain ⟨b, off, hA, hc⟩ := h.rd (by omega)
  exact ⟨b, off, hA, by have := h.le; omega, fun W hW => ⟨hW.cell (hc i r hr).1, hW.cell (hc i r hr).2⟩⟩
/-- Has one of the runs a number? -/
def anyR (l : List Rn) : Bool := l.any fun r => decide (r.lo ≤ r.hi)
set_option maxRecDepth 100000 in
set_option maxHeartbeats 1000000 in
theorem some_any {A : Option Addr} {c : Nat} {l : List Rn} {w : World} (h : RL w A c l) (hl : l.length ≤ 1000000) :
    Calls Try.prog 14 #[.slice A l.length c] w fun e w' => e = .returned (.bool (anyR l)) ∧ Ext w w' := by
  obtain ⟨q, hq⟩ : ∃ q, anyR l = q := ⟨_, rfl⟩
  rw [hq]
  have HQ := Lib.hid hq
  clear hq
  go_enter Try.func14, Try.ntmps14
  go_wp2
  go_loopw [3] (fun i wr => ∃ k : Nat, k ≤ l.length ∧ i = .int .i64 k ∧ Hid (anyR (l.take k) = false) ∧ Ext w wr) (fun i _ => l.length - (intOf i).toNat)
  case atStart => exact ⟨0, Nat.zero_le _, rfl, Lib.hid rfl, Below.refl _ _⟩
  case round =>
    obtain ⟨k, hk, rfl, HT, hE⟩ := hrel
    by_cases hlt : k < l.length
    · obtain ⟨x, hx⟩ : ∃ x, l[k]? = some x := ⟨_, List.getElem?_eq_getElem hlt⟩
      obtain ⟨b, off, rfl, hkc, hc⟩ := (h.ext hE).at hx
      have x0 := fun W (hW : Ext wr W) => (hc W hW).1
      have x1 := fun W (hW : Ext wr W) => (hc W hW).2
      have HX := Lib.hid hx
      clear hc hx
      go_wp2
      refine wp_region_rg Ext rel_ext (fun _ => True) [0, 1, 2, 3, 4, 5, 6, 7, 8, 9, 10] (fun _ => none) (fun _ => none) (fun _ => false) (by kernel_rfl) (by kernel_rfl) (fun _ _ _ _ => trivial) trivial (fun W N hW _ hN => ?_)
      have hEW := hW
      repeat (first | (apply wpR_one; (case ho => (simp only [List.getElem?_toArray, List.getElem?_cons_succ, List.getElem?_cons_zero]; try exact rfl)); (case hw => rfl); (case hl => rfl); (case hsp => rfl); (case he => rfl); (case hv => (intro w' hw'; (try (have hw2 := Ext.trans hEW hw')); (try (have hw3 := Exc.trans hEW hw')); (try (have hw4 := Exk.trans hEW hw')); (try (have hw5 := Mrk.trans hEW hw')); go_simp; exact rfl)); (case hw0 => (first | exact Below.refl _ _ | exact Exc.of_ext (Below.refl _ _) | exact Exk.of_ext (Below.refl _ _) | exact Mrk.of_ext (Below.refl _ _))); simp only [Act.put, List.setIfInBounds_toArray, List.set_cons_succ, List.set_cons_zero]) | (apply wpR_early; (case ho => (simp only [List.getElem?_toArray, List.getElem?_cons_succ, List.getElem?_cons_zero]; try exact rfl)); (case hw => rfl); (case hl => rfl); (case hsp => rfl); (case he => rfl); (case hv => (intro w' hw'; (try have hw2 := Ext.trans hEW hw'); go_simp; exact rfl)); simp only [Act.put, List.setIfInBounds_toArray, List.set_cons_succ, List.set_cons_zero]) | (apply wpR_pass; (case ho => (simp only [List.getElem?_toArray, List.getElem?_cons_succ, List.getElem?_cons_zero]; try exact rfl)); (case hw => rfl); (case hl => rfl); simp only [Act.put, List.setIfInBounds_toArray, List.set_cons_succ, List.set_cons_zero]))
      apply wpR_nil
      apply hN
      intro w' hE' hK _
      have hE2 := (hE.trans hEW).trans hE'
      clear hK hN x0 x1 hW hEW hE'
      by_cases hle : x.lo ≤ x.hi
      · have HL := Lib.hid hle
        go_wp2
        go_ret
        refine ⟨ret_bool ?_, hE2⟩
        rw [← HQ.out]
        symm
        unfold anyR
        rw [List.any_eq_true]
        exact ⟨x, List.mem_of_getElem? HX.out, decide_eq_true HL.out⟩
      · have HT2 : Hid (anyR (l.take (k + 1)) = false) := Lib.hid (by
          obtain ⟨h1, e1⟩ := List.getElem?_eq_some_iff.1 HX.out
          have := HT.out
          unfold anyR at this ⊢
          rw [List.take_succ_eq_append_getElem h1, List.any_append, this, e1]
          simp only [List.any_cons, List.any_nil, Bool.or_false, Bool.false_or]
          exact decide_eq_false hle)
        go_wp2
        go_roundw
        case rel => exact ⟨k + 1, by omega, by go_num, HT2, hE2⟩
        case measure => simp [intOf]; omega
    · obtain rfl : k = l.length := by omega
      go_wp2
      go_ret
      refine ⟨ret_bool ?_, hE⟩
      rw [← HQ.out]
      have := HT.out
      rw [List.take_length] at this
      exact this.symm
end Go.Proofs.Ytffapgemacbdjaa
