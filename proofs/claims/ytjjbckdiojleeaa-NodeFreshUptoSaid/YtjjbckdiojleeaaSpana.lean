/- Contracts of package span's functions over keys. No condition but that each list lies in memory as a slice. -/
import Derived.Test.YtjjbckdiojleeaaBcmp
import Derived.Test.YtjjbckdiojleeaaBlk
import Derived.Test.YtjjbckdiojleeaaSpanl
namespace Go.Proofs.Ytjjbckdiojleeaa
open Go.RowKit Go.Proofs
/-- 'copy(out, b)' into a block of zeros that is long enough. -/
theorem run_copy8 {P : Program} {w : World} {dT sT ty elem : TypeId} {g m : Nat} {A : Option Addr} {c : Nat} {bs : List UInt8} (hu : P.underlying dT = some (.slice elem)) (hs : (P.info? elem).map (·.size) = some 1)
    (hb : Blk elem w g (List.replicate m 0)) (h : Rd w A bs) (hm : bs.length ≤ m) :
    ∃ w', (Builtin.copy_ #[dT, sT] ty #[.slice (some ⟨g, 0, none⟩) bs.length m, .slice A bs.length c]).run P w = .ok (goInt bs.length) w' ∧ Blk elem w' g (bs ++ List.replicate (m - bs.length) 0) ∧ w.grownBy w' (some g) := by
  by_cases h0 : bs.length = 0
  · have : bs = [] := List.eq_nil_of_length_eq_zero h0
    subst this
    refine ⟨w, ?_, by simpa using hb, World.grownBy.refl w _⟩
    simpa using run_copy_none (P := P) w dT sT ty elem (some ⟨g, 0, none⟩) A 0 m 0 c hu hs (by simp)
  · obtain ⟨b, off, rfl, hc⟩ := h (by omega)
    have hr := run_copy_row (P := P) w dT sT ty elem g 0 bs.length m ⟨b, off, none⟩ bs.length c (cells8 (List.replicate m 0)).toArray elem (cells8 bs) hu hs hb (by simp [length_cells8]) (fun j v hj => by
      have hjl : j < bs.length := by simpa [length_cells8] using (List.getElem?_eq_some_iff.1 hj).1
      rw [cells8_at hjl] at hj
      injection hj with hj
      rw [Addr.add_lit, hc j hjl, hj]) (by simp [length_cells8]; omega) (cells8_one bs)
    rw [length_cells8] at hr
    refine ⟨_, hr, ?_, ⟨rfl, rfl, rfl, by simp, fun k _ hk => setRow_other w g k _ (fun e => hk (by rw [e]))⟩⟩
    unfold Blk
    rw [setRow_heap w g _ _ elem (0, 0) hb]
    congr 2
    simp [cells8]
theorem fresh_any {A : Option Addr} {c n room : Nat} {bs : List UInt8} {w : World} (h : Sl w A c bs) (hn : n = bs.length) (hr : room ≤ 1) :
    Calls Try.prog 79 #[.slice A n c, .int .i64 (room : Int)] w fun e w' => ∃ g, e = .returned (.slice (some ⟨g, 0, none⟩) bs.length (bs.length + room)) ∧ w.heap.size ≤ g ∧ Blk 5 w' g (bs ++ List.replicate room 0) ∧ Ext w w' := by
  subst hn
  obtain ⟨i0, hi, hz0, hz1, hz2⟩ := info_parts infoU8
  have hl := h.len
  go_enter Try.func79, Try.ntmps79
  go_wp2_with (at_make; refine wpList_make_any _ rfl _ _ 24 rfl 5 i0 (.int .u8 0) 1 Try.underlying24 hi hz0 hz1 _ _ _ _ bs.length (bs.length + room) rfl rfl rfl (by omega) (by omega) (by rw [hz2]; omega) (by omega) ?_; intro w1 hb1 hgrow1)
  have hm := Blk.made hb1
  have hE1 := ext_make hgrow1
  clear hb1 hgrow1
  obtain ⟨w2, hrun, hb2, hg2⟩ := run_copy8 (ty := 3) (dT := 24) (sT := 24) (c := c) Try.underlying24 (by kernel_rfl) hm (h.rd.ext hE1) (by omega)
  rw [show bs.length + room - bs.length = room by omega] at hb2
  have hE2 := ext_only hE1 hg2 (Nat.le_refl _)
  rw [hrun]
  go_wp2
  go_ret
  exact ⟨_, rfl, Nat.le_refl _, hb2, hE2⟩
/-- How far a row goes without the bytes FF at its end. -/
def Stem (bs : List UInt8) (k : Nat) : Prop := k ≤ bs.length ∧ bs.drop k = List.replicate (bs.length - k) 255
theorem Stem.start (bs : List UInt8) : Stem bs bs.length := ⟨Nat.le_refl _, by simp⟩
theorem Stem.step {bs : List UInt8} {k : Nat} (h : Stem bs (k + 1)) (he : at8 bs k = 255) : Stem bs k := by
  have hk : k < bs.length := h.1
  refine ⟨by omega, ?_⟩
  rw [List.drop_eq_getElem_cons hk, h.2, show bs.length - k = (bs.length - (k + 1)) + 1 by omega, List.replicate_succ]
  congr 1
  have : (bs[k].toNat : Int) = 255 := by rw [← he]; simp [at8, hk]
  apply UInt8.toNat_inj.1
  show bs[k].toNat = 255
  omega
theorem Stem.up_zero {bs : List UInt8} (h : Stem bs 0) : upB bs = [] := by
  have := h.2
  rw [List.drop_zero] at this
  rw [this]
  exact upB_app [] _
theorem Stem.up_succ {bs : List UInt8} {k : Nat} (h : Stem bs (k + 1)) (he : at8 bs k ≠ 255) : upB bs = (bs.take (k + 1)).set k (b8 (at8 bs k + 1)) := by
  have hk : k < bs.length := h.1
  have e1 : bs = bs.take (k + 1) ++ List.replicate (bs.length - (k + 1)) 255 := by rw [← h.2, List.take_append_drop]
  have e2 : at8 bs k = (bs[k].toNat : Int) := by simp [at8, hk]
  have e3 : bs[k] ≠ 255 := fun e => he (by rw [e2, e]; rfl)
  have e4 : b8 (at8 bs k + 1) = bs[k] + 1 := by
    apply UInt8.toNat_inj.1
    have h1 := b8_toNat (at8 bs k + 1)
    have h2 := bs[k].toNat_lt
    rw [UInt8.toNat_add]
    show (b8 (at8 bs k + 1)).toNat = (bs[k].toNat + 1) % 256
    omega
  rw [e4]
  conv => lhs; rw [e1]
  rw [upB_app, List.take_succ_eq_append_getElem hk, upB_snoc _ _ e3, List.set_append_right _ _ (by simp; omega)]
  rw [show k - (bs.take k).length = 0 by simp; omega]
  rfl
end Go.Proofs.Ytjjbckdiojleeaa
