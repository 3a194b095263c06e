/- Contracts of span.Compare and span.Between. No condition but that each list lies in memory as a slice. -/
import Derived.Test.YtijlaknfagpglaaSpane
namespace Go.Proofs.Ytijlaknfagpglaa
open Go.RowKit Go.Proofs
theorem scmp_any {A B : Option Addr} {c d n m : Nat} {xs ys : List UInt8} {w : World} (ha : Sl w A c xs) (hb : Sl w B d ys) (hn : n = xs.length) (hm : m = ys.length) :
    Calls Try.prog 14 #[.slice A n c, .slice B m d] w fun e w' => e = .returned (.int .i64 (cmpB xs ys)) ∧ Ext w w' := by
  subst hn
  subst hm
  go_enter Try.func14, Try.ntmps14
  go_wp2_with fail
  refine (bcmp_any ha hb rfl rfl).mono ?_
  rintro e w1 ⟨rfl, hE⟩
  go_wp2
  go_ret
  exact ⟨rfl, hE⟩
/-- What betwB answers, as two values. -/
def betwK (a b : List UInt8) : List UInt8 := (betwB a b).getD []
theorem comB_le (a b : List UInt8) : comB a b ≤ a.length ∧ comB a b ≤ b.length := by
  induction a generalizing b with
  | nil => simp [comB]
  | cons x a ih =>
    cases b with
    | nil => simp [comB]
    | cons y b =>
      simp only [comB]
      have := ih b
      split <;> simp <;> omega
set_option maxHeartbeats 1000000 in
theorem between_any {A B : Option Addr} {c d n m : Nat} {xs ys : List UInt8} {w : World} (ha : Sl w A c xs) (hb : Sl w B d ys) (hn : n = xs.length) (hm : m = ys.length) :
    Calls Try.prog 21 #[.slice A n c, .slice B m d] w fun e w' => ∃ A' c', e = .returned (.tuple #[.slice A' (betwK xs ys).length c', .bool (betwB xs ys).isSome]) ∧ Own 5 w.heap.size w' A' c' (betwK xs ys) ∧ Ext w w' := by
  obtain ⟨i0, hi, hz0, hz1, hz2⟩ := info_parts infoU8
  subst hn
  subst hm
  have hla := ha.len
  have hlb := hb.len
  have hca := ha.le
  have hcb := hb.le
  have hcc := hb.cap
  have hcm := comB_le xs ys
  go_enter Try.func21, Try.ntmps21
  go_wp2_with fail
  refine (bcmp_any ha hb rfl rfl).mono ?_
  rintro e w1 ⟨rfl, hE1⟩
  by_cases h0 : 0 ≤ cmpB xs ys
  · have HQ := Lib.hid (show betwB xs ys = none by unfold betwB; rw [if_pos h0])
    go_wp2
    go_ret2
    unfold betwK
    rw [HQ.out]
    exact ⟨none, 0, rfl, ⟨rfl, .inl ⟨rfl, rfl⟩⟩, hE1⟩
  · have h0' : cmpB xs ys < 0 := by omega
    go_wp2_with fail
    refine (common_any (ha.ext hE1) (hb.ext hE1) rfl rfl).mono ?_
    rintro e w2 ⟨rfl, hE2⟩
    have hE3 := hE1.trans hE2
    by_cases h24 : 24 ≤ comB xs ys
    · have HQ := Lib.hid (show betwB xs ys = none by unfold betwB; have h0n : ¬ 0 ≤ cmpB xs ys := (by omega); rw [if_neg h0n, if_pos h24])
      go_wp2
      go_ret2
      unfold betwK
      rw [HQ.out]
      exact ⟨none, 0, rfl, ⟨rfl, .inl ⟨rfl, rfl⟩⟩, hE3⟩
    · have h24' : comB xs ys < 24 := by omega
      obtain ⟨k, hk⟩ : ∃ k, comB xs ys = k := ⟨_, rfl⟩
      rw [hk] at h24 h24' hcm ⊢
      have hs := (hb.ext hE3).take k k (by simp; omega) (by omega)
      have hlt : (ys.take k).length = k := by simp; omega
      have HL := Lib.hid hlt
      clear hlt
      by_cases hka : k = xs.length
      · have HQ := Lib.hid (show betwB xs ys = some (ys.take k ++ [0]) by unfold betwB; have h0n : ¬ 0 ≤ cmpB xs ys := (by omega); rw [if_neg h0n, hk, if_neg h24, if_pos hka])
        clear hk
        subst hka
        go_wp2_with fail
        refine (fresh1_any hs HL.out.symm).mono ?_
        rintro e w3 ⟨g, rfl, hg, hbk, hE4⟩
        rw [HL.out]
        have ho := (hbk.own (bs := ys.take xs.length) hg (by simp) (by simp) (by simp; omega)).mono hE3.size
        rw [show (ys.take xs.length ++ [(0 : UInt8)]).length = xs.length + 1 by simp; omega] at ho
        have hE5 := hE3.trans hE4
        unfold Own at ho
        rw [HL.out] at ho
        go_wp2_with (at_builtin; refine wpList_append_own _ rfl _ _ 22 rfl w.heap.size 5 i0 (.int .u8 0) 1 1 Try.underlying22 hi hz0 hz1 hz2 rfl (by decide) _ _ _ rfl (World.ownsRow.alloc ho _) ⟨w3.heap.size, 0, none⟩ 1 1 [.int .u8 0] rfl rfl (cell_one_new _ _ _) (by simp [Value.oneCell']) (by simp [maxLen]; omega) (by omega) (by have := hE5.size; simp; omega) ?_; intro v' w4 hown2 hgrow2 _)
        have hE6 := ext_append hE5 ho hgrow2
        obtain ⟨A', c', rfl, ho2⟩ := own_append1 (b := 0) hown2 (by rw [HL.out])
        clear hown2 hgrow2 ho hbk
        go_wp2
        go_ret2
        unfold betwK
        rw [HQ.out]
        exact ⟨A', c', rfl, ho2, hE6⟩
      · have HQ := Lib.hid (show betwB xs ys = some (ys.take k ++ [xs.getD k 0 + 1]) by unfold betwB; have h0n : ¬ 0 ≤ cmpB xs ys := (by omega); rw [if_neg h0n, hk, if_neg h24, if_neg hka]; rfl)
        clear hk
        go_wp2_with fail
        refine (fresh1_any hs HL.out.symm).mono ?_
        rintro e w3 ⟨g, rfl, hg, hbk, hE4⟩
        rw [HL.out]
        have ho := (hbk.own (bs := ys.take k) hg (by simp) (by simp) (by simp; omega)).mono hE3.size
        rw [show (ys.take k ++ [(0 : UInt8)]).length = k + 1 by simp; omega] at ho
        have hE5 := hE3.trans hE4
        unfold Own at ho
        rw [HL.out] at ho
        obtain ⟨b1, o1, rfl, hc1⟩ := (ha.rd.ext hE5) (by omega)
        have hd1 := hc1 k (by omega)
        clear hc1
        have hbd := at8_bd xs k
        have e8 : (at8 xs k + 1) % 256 = ((xs.getD k 0 + 1).toNat : Int) := by
          unfold at8
          rw [UInt8.toNat_add]
          rfl
        have HE8 := Lib.hid e8
        clear e8
        go_wp2_with (at_builtin; refine wpList_append_own _ rfl _ _ 22 rfl w.heap.size 5 i0 (.int .u8 0) 1 1 Try.underlying22 hi hz0 hz1 hz2 rfl (by decide) _ _ _ rfl (World.ownsRow.alloc ho _) ⟨w3.heap.size, 0, none⟩ 1 1 [.int .u8 ((at8 xs k + 1) % 256)] rfl rfl (cell_one_new _ _ _) (by simp [Value.oneCell']) (by simp [maxLen]; omega) (by omega) (by have := hE5.size; simp; omega) ?_; intro v' w4 hown2 hgrow2 _)
        have hE6 := ext_append hE5 ho hgrow2
        rw [HE8.out] at hown2
        obtain ⟨A', c', rfl, ho2⟩ := own_append1 (b := xs.getD k 0 + 1) hown2 (by rw [HL.out])
        clear hown2 hgrow2 ho hbk
        go_wp2
        go_ret2
        unfold betwK
        rw [HQ.out]
        exact ⟨A', c', rfl, ho2, hE6⟩
end Go.Proofs.Ytijlaknfagpglaa
