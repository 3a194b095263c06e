/- Contracts of span's more, less, Above. No condition but that each list lies in memory as a slice. -/
import Derived.Test.YtijlaknfagpglaaSpanc
import Derived.Test.YtijlaknfagpglaaOwnb
import Derived.Test.YtijlaknfagpglaaMildg
namespace Go.Proofs.Ytijlaknfagpglaa
open Go.RowKit Go.Proofs
/-- A store into a block of another element type leaves a row as it is. -/
theorem Own.other {e e' : TypeId} {B g c : Nat} {w w' : World} {A : Option Addr} {bs : List UInt8} {cs : Array Value} {fr : Nat × Nat} (h : Own e B w A c bs) (hg : w.heap[g]? = some (.cells cs e' fr)) (hne : e ≠ e') (k : w.grownBy w' (some g)) : Own e B w' A c bs :=
  World.ownsRow.kept h k (by
    rcases h.2 with ⟨hv, _⟩ | ⟨g', cap, cur, hv, _, hg', _⟩
    · exact .inl (by rw [hv]; rfl)
    · refine .inr fun he => ?_
      rw [hv] at he
      injection he with he
      simp only at he
      subst he
      rw [hg] at hg'
      injection hg' with hg'
      injection hg' with _ h2 _
      exact hne h2.symm)
theorem more_any {A B : Option Addr} {c d n m : Nat} {xs ys : List UInt8} {w : World} (ha : Sl w A c xs) (hb : Sl w B d ys) (hn : n = xs.length) (hm : m = ys.length) :
    Calls Try.prog 55 #[.slice A n c, .slice B m d] w fun e w' => ∃ A' c', e = .returned (.slice A' (maxB xs ys).length c') ∧ Own 5 w.heap.size w' A' c' (maxB xs ys) ∧ Ext w w' := by
  subst hn
  subst hm
  have hla := ha.len
  have hlb := hb.len
  go_enter Try.func55, Try.ntmps55
  go_wp2_with fail
  refine (bcompare_any ha hb).mono ?_
  rintro e w1 ⟨rfl, hE⟩
  by_cases h0 : cmpB xs ys < 0
  · have HQ := Lib.hid (show maxB xs ys = ys by unfold maxB; rw [if_pos h0])
    go_wp2_with fail
    refine (fresh0_any (hb.ext hE) rfl).mono ?_
    rintro e w2 ⟨g, rfl, hg, hbk, hE2⟩
    have ho := (hbk.whole hg (by omega)).mono hE.size
    go_wp2
    go_ret
    rw [HQ.out]
    exact ⟨_, _, rfl, ho, hE.trans hE2⟩
  · have h1 : 0 ≤ cmpB xs ys := by omega
    have HQ := Lib.hid (show maxB xs ys = xs by unfold maxB; rw [if_neg h0])
    clear h0
    go_wp2_with fail
    refine (fresh0_any (ha.ext hE) rfl).mono ?_
    rintro e w2 ⟨g, rfl, hg, hbk, hE2⟩
    have ho := (hbk.whole hg (by omega)).mono hE.size
    go_wp2
    go_ret
    rw [HQ.out]
    exact ⟨_, _, rfl, ho, hE.trans hE2⟩
theorem less_any {A B : Option Addr} {c d n m : Nat} {xs ys : List UInt8} {w : World} (ha : Sl w A c xs) (hb : Sl w B d ys) (hn : n = xs.length) (hm : m = ys.length) :
    Calls Try.prog 56 #[.slice A n c, .slice B m d] w fun e w' => ∃ A' c', e = .returned (.slice A' (minB xs ys).length c') ∧ Own 5 w.heap.size w' A' c' (minB xs ys) ∧ Ext w w' := by
  subst hn
  subst hm
  have hla := ha.len
  have hlb := hb.len
  go_enter Try.func56, Try.ntmps56
  go_wp2_with fail
  refine (bcompare_any ha hb).mono ?_
  rintro e w1 ⟨rfl, hE⟩
  by_cases h0 : 0 < cmpB xs ys
  · have HQ := Lib.hid (show minB xs ys = ys by unfold minB; rw [if_pos h0])
    go_wp2_with fail
    refine (fresh0_any (hb.ext hE) rfl).mono ?_
    rintro e w2 ⟨g, rfl, hg, hbk, hE2⟩
    have ho := (hbk.whole hg (by omega)).mono hE.size
    go_wp2
    go_ret
    rw [HQ.out]
    exact ⟨_, _, rfl, ho, hE.trans hE2⟩
  · have h1 : cmpB xs ys ≤ 0 := by omega
    have HQ := Lib.hid (show minB xs ys = xs by unfold minB; rw [if_neg h0])
    clear h0
    go_wp2_with fail
    refine (fresh0_any (ha.ext hE) rfl).mono ?_
    rintro e w2 ⟨g, rfl, hg, hbk, hE2⟩
    have ho := (hbk.whole hg (by omega)).mono hE.size
    go_wp2
    go_ret
    rw [HQ.out]
    exact ⟨_, _, rfl, ho, hE.trans hE2⟩
theorem above_any {A : Option Addr} {c n : Nat} {p : List UInt8} {w : World} (h : Sl w A c p) (hn : n = p.length) :
    Calls Try.prog 31 #[.slice A n c] w fun e w' => ∃ A' c' B' d', e = .returned (.agg #[.slice A' p.length c', .slice B' (upB p).length d', .bool (aboveR p).op]) ∧ ROwn w.heap.size w' A' c' B' d' (aboveR p) ∧ Ext w w' := by
  subst hn
  have hl := h.len
  have hul := upB_length p
  have HN := Lib.hid (nil_len (upB p))
  go_enter Try.func31, Try.ntmps31
  go_wp2_with fail
  have hE0 := ext_alloc w (.cells #[.slice none 0 0, .slice none 0 0, .bool false] 32 (0, 0))
  refine (up_any (h.ext hE0) rfl).mono ?_
  rintro e w1 ⟨A1, c1, rfl, ho, hE⟩
  have hb1 := hE.blk (heap_alloc_new w _)
  have ho1 := ho.mono (show w.heap.size + 1 ≤ _ by simp)
  replace hE := hE0.trans hE
  go_wp2_with fail
  refine (fresh0_any (h.ext hE) rfl).mono ?_
  rintro e w2 ⟨g, rfl, hg, hbk, hE2⟩
  have hsz := (Array.getElem?_eq_some_iff.1 hb1).1
  have hb2 := hE2.blk hb1
  have ho2 := ho1.ext hE2
  have hp2 := (hbk.whole hg (by omega)).mono (Nat.succ_le_of_lt hsz)
  have hns := Lib.hid (noShare_of ho1 hg (hbk.whole (Nat.le_refl _) (by omega))).symm
  have hE3 := hE.trans hE2
  clear hbk ho ho1 hE2
  go_wp2_with (refine wpList_store_box rfl 32 _ _ rfl w.heap.size _ rfl rfl 32 _ hb2 (by kernel_rfl) rfl (by simp [Value.oneCell']) ?_; intro w3 hb3 hg3)
  have hE4 := ext_only hE3 hg3 (Nat.le_refl _)
  have ho3 := (ho2.only hg3 (Nat.lt_succ_self _)).mono (Nat.le_succ _)
  have hp3 := (hp2.only hg3 (Nat.lt_succ_self _)).mono (Nat.le_succ _)
  go_wp2
  exact bodyPost_ret (results_cell_row rfl _ _ _ _ _ _ _ rfl hb3 Try.underlying32 rfl (by kernel_rfl)) rfl ⟨_, _, _, _, by simp only [aboveR]; rw [HN.out], ⟨hp3, ho3, hns.out⟩, hE4⟩
end Go.Proofs.Ytijlaknfagpglaa
