/- Contracts of the reference's functions that make a key: Next, From, greater, lesser; of span's more and less. No condition but that each list lies in memory as a slice. -/
import Derived.Test.YtijlaknfagpglaaSpanb
import Derived.Test.YtijlaknfagpglaaOwnb
namespace Go.Proofs.Ytijlaknfagpglaa
open Go.RowKit Go.Proofs
theorem cpy_any {A : Option Addr} {c n : Nat} {bs : List UInt8} {w : World} (h : Sl w A c bs) (hn : n = bs.length) :
    Calls Try.prog 46 #[.slice A n c] w fun e w' => ∃ A' c', e = .returned (.slice A' bs.length c') ∧ Own 5 w.heap.size w' A' c' bs ∧ Ext w w' := by
  subst hn
  exact copyBytes_any h
theorem cmp_any {A B : Option Addr} {c d n m : Nat} {xs ys : List UInt8} {w : World} (ha : Sl w A c xs) (hb : Sl w B d ys) (hn : n = xs.length) (hm : m = ys.length) :
    Calls Try.prog 15 #[.slice A n c, .slice B m d] w fun e w' => e = .returned (.int .i64 (cmpB xs ys)) ∧ Ext w w' := by
  subst hn
  subst hm
  exact compare_any ha hb
theorem bcmp_any {A B : Option Addr} {c d n m : Nat} {xs ys : List UInt8} {w : World} (ha : Sl w A c xs) (hb : Sl w B d ys) (hn : n = xs.length) (hm : m = ys.length) :
    Calls Try.prog 43 #[.slice A n c, .slice B m d] w fun e w' => e = .returned (.int .i64 (cmpB xs ys)) ∧ Ext w w' := by
  subst hn
  subst hm
  exact bcompare_any ha hb
theorem at_take {bs : List UInt8} {j k : Nat} (h : j < k) : at8 (bs.take k) j = at8 bs j := by
  unfold at8
  simp only [List.getD_eq_getElem?_getD]
  rw [List.getElem?_take, if_pos h]
theorem Stem.set_up {bs : List UInt8} {k : Nat} (h : Stem bs (k + 1)) (he : at8 bs k ≠ 255) : (bs.take (k + 1)).set k (b8 (at8 bs k + 1)) = upB bs := (h.up_succ he).symm
set_option maxRecDepth 4000 in
set_option maxHeartbeats 1000000 in
theorem rnext_any {A : Option Addr} {c n : Nat} {bs : List UInt8} {w : World} (h : Sl w A c bs) (hn : n = bs.length) :
    Calls Try.prog 20 #[.slice A n c] w fun e w' => ∃ A' c', e = .returned (.slice A' (nextB bs).length c') ∧ Own 5 w.heap.size w' A' c' (nextB bs) ∧ Ext w w' := by
  subst hn
  obtain ⟨i0, hi, hz0, hz1, hz2⟩ := info_parts infoU8
  have hl := h.len
  have hcap := h.cap
  by_cases h24 : bs.length < 24
  · have hnx : nextB bs = bs ++ [0] := by unfold nextB; rw [if_pos h24]
    rw [hnx]
    clear hnx
    go_enter Try.func20, Try.ntmps20
    go_wp2_with fail
    refine (cpy_any h rfl).mono ?_
    rintro e w1 ⟨A1, c1, rfl, ho, hE⟩
    go_wp2_with (at_builtin; refine wpList_append_own _ rfl _ _ 22 rfl w.heap.size 5 i0 (.int .u8 0) 1 1 Try.underlying22 hi hz0 hz1 hz2 rfl (by decide) _ _ _ rfl (World.ownsRow.alloc ho _) ⟨w1.heap.size, 0, none⟩ 1 1 [.int .u8 0] rfl rfl (cell_one_new _ _ _) (by simp [Value.oneCell']) (by simp [maxLen]; omega) (by omega) (by have := hE.size; simp; omega) ?_; intro v' w2 hown2 hgrow2 _)
    have hE2 := ext_append hE ho hgrow2
    obtain ⟨A', c', rfl, ho2⟩ := own_append1 (b := 0) hown2 rfl
    clear hown2 hgrow2 ho
    go_wp2
    go_ret
    exact ⟨A', c', rfl, ho2, hE2⟩
  · obtain ⟨q, hq⟩ : ∃ q, q = bs.take 24 := ⟨_, rfl⟩
    have hnx : nextB bs = upB q := by unfold nextB; rw [if_neg h24, hq]
    rw [hnx]
    clear hnx
    have hle := h.le
    have hs := h.take 24 c (by simp; omega) (by omega)
    have hl24 : (bs.take 24).length = 24 := by simp; omega
    rw [← hq] at hl24 hs
    have HL := Lib.hid hl24
    clear hl24 hq
    go_enter Try.func20, Try.ntmps20
    go_wp2_with fail
    refine (cpy_any hs HL.out.symm).mono ?_
    rintro e w1 ⟨A1, c1, rfl, ho, hE⟩
    obtain ⟨g, rfl, hg⟩ := ho.form (by rw [HL.out]; omega)
    have hst0 := Stem.start q
    rw [HL.out] at hst0
    rw [HL.out]
    go_wp2
    go_loop [3] (fun v => ∃ k : Nat, v = .slice (some ⟨g, 0, none⟩) k c1 ∧ k ≤ 24 ∧ Stem q k) (fun v => match v with | .slice _ k _ => k | _ => 0)
    case atStart => exact ⟨24, rfl, Nat.le_refl _, hst0⟩
    case round =>
      obtain ⟨k, rfl, hk24, hst⟩ := hrel
      have hc1 := (ho.sl (by rw [HL.out]; omega)).le
      rw [HL.out] at hc1
      by_cases hk : 0 < k
      · obtain ⟨j, rfl⟩ : ∃ j, k = j + 1 := ⟨k - 1, by omega⟩
        have hck := ho.cell (i := j) (by rw [HL.out]; omega)
        have hfr := ho.frozen j
        by_cases he : at8 q j = 255
        · have hs2 := hst.step he
          have h1 : at8 q j ≤ 255 := by omega
          have h2 : 255 ≤ at8 q j := by omega
          clear he
          go_wp2
          go_round
          case rel => exact ⟨j, by go_num, by omega, hs2⟩
          case measure => simp
        · have h1 : at8 q j < 255 := by have := at8_bd q j; omega
          have h3 : 0 ≤ at8 q j := (at8_bd q j).1
          have hne : (at8 q j == 255) = false := by simp; omega
          have hup := hst.set_up he
          have ho2 := (ho.take (j + 1)).set_ j (b8 (at8 q j + 1))
          rw [hup, b8_toNat, Int.emod_eq_of_lt (by omega) (by omega)] at ho2
          have hE2 := ext_store (p := ⟨g, j, none⟩) hE hg (.int .u8 (at8 q j + 1))
          have hul : (upB q).length = j + 1 := by rw [← hup]; simp [HL.out]; omega
          have HU := Lib.hid hul
          clear he hup hul
          go_wp2
          go_ret
          exact ⟨_, _, ret_slice HU.out.symm, ho2, hE2⟩
      · obtain rfl : k = 0 := by omega
        have hu := Lib.hid hst.up_zero
        go_wp2
        go_ret
        rw [hu.out]
        exact ⟨none, 0, rfl, ⟨rfl, .inl ⟨rfl, rfl⟩⟩, hE⟩
end Go.Proofs.Ytijlaknfagpglaa
