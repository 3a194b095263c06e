/- Contracts of span.Equal and of the reference's functions that make a key or ask a range. No condition but that each list lies in memory as a slice. -/
import Derived.Test.YtijlaknfagpglaaSpanc
namespace Go.Proofs.Ytijlaknfagpglaa
open Go.RowKit Go.Proofs
theorem bytesIn_of {w : World} {A : Option Addr} {bs : List UInt8} (h : Rd w A bs) : Lib.BytesIn w A bs.length (bs.map fun b => (b.toNat : Int)) := fun hn => by
  obtain ⟨b, off, hA, hc⟩ := h hn
  refine ⟨b, off, hA, fun i hi => ?_⟩
  rw [hc i hi]
  congr 2
  simp [at8, hi]
theorem str_of_bytes (l : List UInt8) : strOfNums (l.map fun b => (b.toNat : Int)) = ⟨l.toArray⟩ := by
  unfold strOfNums
  congr 2
  rw [List.map_map]
  conv => rhs; rw [← List.map_id l]
  apply List.map_congr_left
  intro b _
  simp
theorem beq_any {A B : Option Addr} {c d n m : Nat} {xs ys : List UInt8} {w : World} (ha : Sl w A c xs) (hb : Sl w B d ys) (hn : n = xs.length) (hm : m = ys.length) :
    Calls Try.prog 51 #[.slice A n c, .slice B m d] w fun e w' => e = .returned (.bool (eqB xs ys)) ∧ w' = w := by
  subst hn
  subst hm
  have h1 := (bytesIn_of ha.rd).convert (P := Try.prog) (by simp) c 22 5 9 Try.underlying22 Try.underlying5 Try.underlying9
  have h2 := (bytesIn_of hb.rd).convert (P := Try.prog) (by simp) d 22 5 9 Try.underlying22 Try.underlying5 Try.underlying9
  rw [str_of_bytes] at h1 h2
  have he : (xs == ys) = eqB xs ys := by
    unfold eqB
    rw [Bool.eq_iff_iff]
    simp
  have HE := Lib.hid he
  clear he
  go_enter Try.func51, Try.ntmps51
  go_wp2
  go_ret
  exact ⟨ret_bool HE.out, rfl⟩
theorem equal_parts (a b : Rg) : equalB a b = ((formB a).isSome == (formB b).isSome && (rgOf (formB a)).op == (rgOf (formB b)).op && eqB (rgOf (formB a)).lo (rgOf (formB b)).lo && eqB (rgOf (formB a)).hi (rgOf (formB b)).hi) := by
  unfold equalB eqB
  rw [Bool.eq_iff_iff]
  cases ha : formB a <;> cases hb : formB b <;> simp [rgOf]
  rename_i x y
  cases x
  cases y
  simp
  constructor
  · rintro ⟨h1, h2, h3⟩; exact ⟨⟨h3, decide_eq_true h1⟩, decide_eq_true h2⟩
  · rintro ⟨⟨h3, h1⟩, h2⟩; exact ⟨of_decide_eq_true h1, of_decide_eq_true h2, h3⟩
theorem form_len (a : Rg) : (rgOf (formB a)).lo.length ≤ 24 ∧ (rgOf (formB a)).hi.length ≤ 24 := by
  unfold formB
  split
  · split
    · exact ⟨fromB_length _, by simp [rgOf]⟩
    · exact ⟨fromB_length _, fromB_length _⟩
  · simp [rgOf]
set_option maxHeartbeats 2000000 in
theorem equal_any {lA hA mA jA : Option Addr} {lc hc mc jc : Nat} {lo hi mo ji : List UInt8} {op oq : Bool} {w : World} (hlo : Sl w lA lc lo) (hhi : Sl w hA hc hi) (hmo : Sl w mA mc mo) (hji : Sl w jA jc ji) :
    Calls Try.prog 25 #[.agg #[.slice lA lo.length lc, .slice hA hi.length hc, .bool op], .agg #[.slice mA mo.length mc, .slice jA ji.length jc, .bool oq]] w fun e w' => e = .returned (.bool (equalB ⟨lo, hi, op⟩ ⟨mo, ji, oq⟩)) ∧ Ext w w' := by
  have hq := Lib.hid (equal_parts ⟨lo, hi, op⟩ ⟨mo, ji, oq⟩)
  have l1 := form_len ⟨lo, hi, op⟩
  have l2 := form_len ⟨mo, ji, oq⟩
  have hE0 : Ext w ((w.alloc (.cells #[.slice lA lo.length lc, .slice hA hi.length hc, .bool op] 32 (0, 0))).alloc (.cells #[.slice mA mo.length mc, .slice jA ji.length jc, .bool oq] 32 (0, 0))) := (ext_alloc _ _).trans (ext_alloc _ _)
  go_enter Try.func25, Try.ntmps25
  go_wp2_with fail
  refine (form_any (hlo.ext hE0) (hhi.ext hE0)).mono ?_
  rintro e w1 ⟨A, c, B, d, r, hr, rfl, hR, hE1⟩
  have hb2 := hE1.blk (show (((w.alloc _).alloc _).heap)[w.heap.size + 1]? = some _ by rw [show w.heap.size + 1 = (w.alloc _).heap.size from (World.size_alloc _ _).symm]; exact heap_alloc_new _ _)
  have hsz : w.heap.size + 1 < w1.heap.size := (Array.getElem?_eq_some_iff.1 hb2).1
  have hE2 := hE0.trans hE1
  have hrl : r.lo.length ≤ 24 ∧ r.hi.length ≤ 24 := by rw [hr]; exact l1
  have HR := Lib.hid hr
  clear hr
  go_wp2_with (refine wpList_store_box rfl 32 _ _ rfl w1.heap.size _ rfl rfl 32 _ (heap_alloc_new _ _) (by kernel_rfl) rfl (by simp [Value.oneCell']) ?_; intro w2 hb5 hg5; have hE5 := ext_only (ext_alloc w1 _) hg5 (Nat.le_refl _); have hb6 := hE5.blk hb2; have f0 : w2.cell? ⟨w.heap.size + 1, 0, none⟩ = some (.slice mA mo.length mc) := cell_of_row _ _ _ _ _ _ hb6; have f1 : w2.cell? ⟨w.heap.size + 1, 1, none⟩ = some (.slice jA ji.length jc) := cell_of_row _ _ _ _ _ _ hb6; have f2 : w2.cell? ⟨w.heap.size + 1, 2, none⟩ = some (.bool oq) := cell_of_row _ _ _ _ _ _ hb6)
  have hE6 := hE2.trans hE5
  refine (form_any (hmo.ext hE6) (hji.ext hE6)).mono ?_
  rintro e w3 ⟨A2, c2, B2, d2, r2, hr2, rfl, hR2, hE7⟩
  have hrl2 : r2.lo.length ≤ 24 ∧ r2.hi.length ≤ 24 := by rw [hr2]; exact l2
  have hb7 := hE7.blk hb5
  have HR2 := Lib.hid hr2
  clear hr2 hb5 hg5
  obtain ⟨s1, hs1⟩ : ∃ s, (formB ⟨lo, hi, op⟩).isSome = s := ⟨_, rfl⟩
  obtain ⟨s2, hs2⟩ : ∃ s, (formB ⟨mo, ji, oq⟩).isSome = s := ⟨_, rfl⟩
  have HS1 := Lib.hid hs1
  have HS2 := Lib.hid hs2
  rw [hs1, hs2]
  clear hs1 hs2
  obtain ⟨rl, rh, ro⟩ := r
  obtain ⟨rl2, rh2, ro2⟩ := r2
  have o1 := (hR.1.sl (by omega)).ext hE5 |>.ext hE7
  have o2 := (hR.2.1.sl (by omega)).ext hE5 |>.ext hE7
  have o3 := hR2.1.sl (by omega)
  have o4 := hR2.2.1.sl (by omega)
  dsimp only at o1 o2 o3 o4 hb7 ⊢
  have hEE : Ext w w3 := (hE2.trans hE5).trans hE7
  have TR : ∀ s : Bool, (s == s) = true := fun s => by cases s <;> rfl
  by_cases hs : s1 = s2
  · by_cases hrr : ro = ro2
    · subst hs
      subst hrr
      cases s1 <;> cases ro <;>
      · go_wp2_with (refine wpList_store_box rfl 32 _ _ rfl w3.heap.size _ rfl rfl 32 _ (heap_alloc_new _ _) (by kernel_rfl) rfl (by simp [Value.oneCell']) ?_; intro w4 hb8 hg8; have hE8 := ext_only (ext_alloc w3 _) hg8 (Nat.le_refl _); have hb9 := hE8.blk hb7; have g0 := cell_of_row w4 w1.heap.size 0 _ _ _ hb9; have k0 := cell_of_row w4 w3.heap.size 0 _ _ _ hb8; simp at g0 k0; have g1 := cell_of_row w4 w1.heap.size 1 _ _ _ hb9; have k1 := cell_of_row w4 w3.heap.size 1 _ _ _ hb8; simp at g1 k1; have g2 := cell_of_row w4 w1.heap.size 2 _ _ _ hb9; have k2 := cell_of_row w4 w3.heap.size 2 _ _ _ hb8; simp at g2 k2)
        have hE9 := hEE.trans hE8
        refine (beq_any (o1.ext hE8) (o3.ext hE8) rfl rfl).mono ?_
        rintro e w5 ⟨rfl, rfl⟩
        obtain ⟨q1, hq1⟩ : ∃ q, eqB rl rl2 = q := ⟨_, rfl⟩
        rw [hq1]
        cases q1
        · have HQ1 := Lib.hid hq1
          clear hq1
          go_wp2
          go_ret
          exact ⟨ret_bool (by rw [hq.out, ← HR.out, ← HR2.out, HS1.out, HS2.out]; simp only []; rw [HQ1.out]; rfl), hE9⟩
        · have HQ1 := Lib.hid hq1
          clear hq1
          go_wp2_with fail
          refine (beq_any (o2.ext hE8) (o4.ext hE8) rfl rfl).mono ?_
          rintro e w5 ⟨rfl, rfl⟩
          go_wp2
          go_ret
          exact ⟨ret_bool (by rw [hq.out, ← HR.out, ← HR2.out, HS1.out, HS2.out]; simp only []; rw [HQ1.out]; rfl), hE9⟩
    · subst hs
      have HN := Lib.hid (show (ro == ro2) = false by simpa using hrr)
      cases s1 <;> cases ro <;> cases ro2 <;> first
      | exact absurd rfl hrr
      | (clear hrr
         go_wp2_with (refine wpList_store_box rfl 32 _ _ rfl w3.heap.size _ rfl rfl 32 _ (heap_alloc_new _ _) (by kernel_rfl) rfl (by simp [Value.oneCell']) ?_; intro w4 hb8 hg8; have hE8 := ext_only (ext_alloc w3 _) hg8 (Nat.le_refl _); have hb9 := hE8.blk hb7; have g0 := cell_of_row w4 w1.heap.size 0 _ _ _ hb9; have k0 := cell_of_row w4 w3.heap.size 0 _ _ _ hb8; simp at g0 k0; have g1 := cell_of_row w4 w1.heap.size 1 _ _ _ hb9; have k1 := cell_of_row w4 w3.heap.size 1 _ _ _ hb8; simp at g1 k1; have g2 := cell_of_row w4 w1.heap.size 2 _ _ _ hb9; have k2 := cell_of_row w4 w3.heap.size 2 _ _ _ hb8; simp at g2 k2)
         have hE9 := hEE.trans hE8
         go_wp2
         go_ret
         exact ⟨ret_bool (by rw [hq.out, ← HR.out, ← HR2.out, HS1.out, HS2.out]; rfl), hE9⟩)
  · cases s1 <;> cases s2 <;> first
      | exact absurd rfl hs
      | (clear hs
         go_wp2_with (refine wpList_store_box rfl 32 _ _ rfl w3.heap.size _ rfl rfl 32 _ (heap_alloc_new _ _) (by kernel_rfl) rfl (by simp [Value.oneCell']) ?_; intro w4 hb8 hg8; have hE8 := ext_only (ext_alloc w3 _) hg8 (Nat.le_refl _); have hb9 := hE8.blk hb7; have g0 := cell_of_row w4 w1.heap.size 0 _ _ _ hb9; have k0 := cell_of_row w4 w3.heap.size 0 _ _ _ hb8; simp at g0 k0; have g1 := cell_of_row w4 w1.heap.size 1 _ _ _ hb9; have k1 := cell_of_row w4 w3.heap.size 1 _ _ _ hb8; simp at g1 k1; have g2 := cell_of_row w4 w1.heap.size 2 _ _ _ hb9; have k2 := cell_of_row w4 w3.heap.size 2 _ _ _ hb8; simp at g2 k2)
         have hE9 := hEE.trans hE8
         go_wp2
         go_ret
         exact ⟨ret_bool (by rw [hq.out, ← HR.out, ← HR2.out, HS1.out, HS2.out]; rfl), hE9⟩)
end Go.Proofs.Ytijlaknfagpglaa
