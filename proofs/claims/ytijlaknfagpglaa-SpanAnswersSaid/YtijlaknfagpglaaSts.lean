/- slices.stableCmpFunc and SortStableFunc over ranges. No condition but sizes. -/
import Derived.Test.YtijlaknfagpglaaSsm
namespace Go.Proofs.Ytijlaknfagpglaa
open Go.RowKit Go.Proofs Go.Sort
set_option linter.unusedVariables false
section
variable {α : Type} [Inhabited α] {lt : α → α → Bool} {k lo hi a b n m : Nat} {d d1 d2 : Array α}
/-- Every block of length k is in order. -/
def SB (lt : α → α → Bool) (k lo hi : Nat) (d : Array α) : Prop := ∀ i j, lo ≤ i → i < j → j < hi → i / k = j / k → lt d[j]! d[i]! = false
theorem SB.nil (lt : α → α → Bool) (k lo : Nat) (d : Array α) : SB lt k lo lo d := fun i j h1 h2 h3 => by omega
theorem SB.keep (h : SB lt k lo hi d) (hk : ∀ i, lo ≤ i → i < hi → d1[i]! = d[i]!) : SB lt k lo hi d1 := fun i j h1 h2 h3 h4 => by
  rw [hk i h1 (by omega), hk j (by omega) h3]; exact h i j h1 h2 h3 h4
theorem SB.sub {lo' : Nat} (h : SB lt k lo hi d) (hl : lo ≤ lo') : SB lt k lo' hi d := fun i j h1 h2 h3 h4 => h i j (by omega) h2 h3 h4
theorem div_at (hk : k ∣ a) {i : Nat} (h1 : a ≤ i) (h2 : i < a + k) : i / k = a / k := by
  obtain ⟨c, rfl⟩ := hk
  have h0 : 0 < k := by omega
  rw [Nat.mul_div_cancel_left c h0]
  exact Nat.div_eq_of_lt_le (by rw [Nat.mul_comm]; exact h1) (by rw [Nat.add_mul, Nat.one_mul, Nat.mul_comm]; exact h2)
theorem SB.sorted (h : SB lt k lo hi d) (hk : k ∣ a) (h1 : lo ≤ a) (h2 : b ≤ a + k) (h3 : b ≤ hi) : SortedIn lt a b d := fun i j g1 g2 g3 =>
  h i j (by omega) g2 (by omega) ((div_at hk g1 (by omega)).trans (div_at hk (by omega) (by omega)).symm)
theorem SB.glue (h : SB lt k 0 a d) (hs : SortedIn lt a b d) (h0 : 0 < k) (hk : k ∣ a) : SB lt k 0 b d := fun i j g1 g2 g3 g4 => by
  by_cases c1 : j < a
  · exact h i j g1 g2 c1 g4
  · by_cases c2 : a ≤ i
    · exact hs i j c2 g2 g3
    · exfalso
      obtain ⟨c, rfl⟩ := hk
      have e1 : i / k < c := Nat.div_lt_of_lt_mul (by omega)
      have e2 : c ≤ j / k := (Nat.le_div_iff_mul_le h0).2 (by rw [Nat.mul_comm]; omega)
      omega
theorem SB.all (h : SB lt k 0 n d) (hk : n ≤ k) : SortedIn lt 0 n d := fun i j g1 g2 g3 => h i j g1 g2 g3 (by rw [Nat.div_eq_of_lt (by omega), Nat.div_eq_of_lt (by omega)])
theorem st_ins (h : SB lt k 0 a d) (h0 : 0 < k) (hk : k ∣ a) (hp : PermIn a b d d1) (hs : SortedIn lt a b d1) : SB lt k 0 b d1 :=
  SB.glue (h.keep fun i _ hi => hp.2.1 i (.inl hi)) hs h0 hk
theorem dvd_half {q : Nat} (hq : 2 * k = q) (h : q ∣ a) : k ∣ a := Nat.dvd_trans ⟨2, by rw [Nat.mul_comm]; exact hq.symm⟩ h
theorem st_two {q : Nat} (h : SB lt k a n d) (hq : 2 * k = q) (hk : q ∣ a) (hm : a + k = m) (hb : b ≤ a + q) (hbn : b ≤ n) (hmb : m ≤ b) : SortedIn lt a m d ∧ SortedIn lt m b d := by
  have hd := dvd_half hq hk
  refine ⟨h.sorted hd (Nat.le_refl _) (by omega) (by omega), h.sorted (a := m) ?_ (by omega) (by omega) hbn⟩
  rw [← hm]
  exact (Nat.dvd_add_right hd).2 (Nat.dvd_refl k)
theorem st_step {q : Nat} (h : SB lt q 0 a d) (g : SB lt k a n d) (h0 : 0 < q) (hk : q ∣ a) (hb : a + q = b) (hp : PermIn a b d d1) (hs : SortedIn lt a b d1) : SB lt q 0 b d1 ∧ SB lt k b n d1 ∧ q ∣ b := by
  refine ⟨st_ins h h0 hk hp hs, (g.sub (by omega)).keep fun i hi _ => hp.2.1 i (.inr hi), ?_⟩
  rw [← hb]
  exact (Nat.dvd_add_right hk).2 (Nat.dvd_refl q)
end
set_option maxRecDepth 100000 in
set_option maxHeartbeats 8000000 in
theorem stable_any {B g cap n : Nat} {d : Array Fr} {w : World} (h : SR B g cap d w) (hn : n ≤ d.size) (hsz : d.size ≤ 1048576) :
    Calls Try.prog 70 #[.slice (some ⟨g, 0, none⟩) d.size cap, .int .i64 n, .func (.func 54) #[] #[]] w fun e w' => e = .returned (.tuple #[]) ∧ ∃ d', (PermIn 0 n d d' ∧ SortedIn ltF 0 n d') ∧ SR B g cap d' w' ∧ Exc (DG g) w w' := by
  go_enter Try.func70, Try.ntmps70
  go_wp2
  go_loopw [7, 8] (fun aa bb wr => ∃ (a b : Nat) (dk : Array Fr), a ≤ n ∧ b ≤ n + 20 ∧ aa = .int .i64 a ∧ bb = .int .i64 b ∧ Hid (a + 20 = b) ∧ Hid (20 ∣ a) ∧ Hid (SB ltF 20 0 a dk) ∧ Hid (PermIn 0 n d dk) ∧ SR B g cap dk wr ∧ Exc (DG g) w wr) (fun aa bb _ => n + 20 - (intOf bb).toNat)
  case atStart => exact ⟨0, 20, d, by omega, by omega, rfl, rfl, Lib.hid rfl, Lib.hid ⟨0, rfl⟩, Lib.hid (SB.nil _ _ _ _), Lib.hid (permIn_refl d _ _), h, exc_refl _ _⟩
  case round =>
    clear h
    obtain ⟨a, b, dk, han, hbn, rfl, rfl, HAB, HD, HB, HP, hS, hE⟩ := hrel
    have HDS := Lib.hid (show dk.size = d.size from HP.out.1)
    by_cases hlt : b ≤ n
    · have hki : (b : Int) ≤ (n : Int) := by omega
      obtain ⟨b2, hb2⟩ : ∃ k : Nat, b + 20 = k := ⟨_, rfl⟩
      have hb2i : (b : Int) + 20 = (b2 : Int) := by omega
      have iwb2 : IntKind.i64.wrap (b2 : Int) = (b2 : Int) := IntWalk.i64_in _ (by omega)
      have HB2 := Lib.hid hb2
      clear hb2
      have hc := insert_any hS (show a ≤ b by have := HAB.out; omega) (show b ≤ dk.size by have := HDS.out; omega) (by rw [HDS.out]; exact hsz)
      rw [HDS.out] at hc
      go_wp2_with fail
      refine hc.mono ?_
      rintro e w2 ⟨rfl, d2, ⟨g1, g2⟩, hS2, g4⟩
      have HB3 := Lib.hid (st_ins HB.out (by omega) HD.out g1 g2)
      have HP3 := Lib.hid (permIn_trans _ _ _ _ _ HP.out (permIn_mono _ _ _ _ 0 n (Nat.zero_le _) hlt (by rw [HDS.out]; exact hn) g1))
      have HE3 := Lib.hid (hE.trans g4)
      have HD3 := Lib.hid (show 20 ∣ b by rw [← HAB.out]; exact (Nat.dvd_add_right HD.out).2 (Nat.dvd_refl 20))
      have HS3 := Lib.hid hS2
      clear hc g1 g2 hS2 g4 hS hE
      go_wp2
      go_roundw
      case rel => exact ⟨b, b2, d2, by omega, by have := HB2.out; omega, rfl, by go_num, HB2, HD3, HB3, HP3, HS3.out, HE3.out⟩
      case measure => simp [intOf]; have := HB2.out; omega
    · have hki : ¬ (b : Int) ≤ (n : Int) := by omega
      have hc := insert_any hS (show a ≤ n by omega) (show n ≤ dk.size by have := HDS.out; omega) (by rw [HDS.out]; exact hsz)
      rw [HDS.out] at hc
      go_wp2_with fail
      refine hc.mono ?_
      rintro e w2 ⟨rfl, d2, ⟨g1, g2⟩, hS2, g4⟩
      have HB3 := Lib.hid (st_ins HB.out (by omega) HD.out g1 g2)
      have HP3 := Lib.hid (permIn_trans _ _ _ _ _ HP.out (permIn_mono _ _ _ _ 0 n (Nat.zero_le _) (Nat.le_refl _) (by rw [HDS.out]; exact hn) g1))
      have HE3 := Lib.hid (hE.trans g4)
      clear hc g1 g2 g4 hS hE HB HP HD HAB HDS hki hlt han hbn
      go_wp2
      go_loopw [6] (fun kk wr => ∃ (k : Nat) (dk : Array Fr), 20 ≤ k ∧ k ≤ 2097152 ∧ kk = .int .i64 k ∧ Hid (SB ltF k 0 n dk) ∧ Hid (PermIn 0 n d dk) ∧ SR B g cap dk wr ∧ Exc (DG g) w wr) (fun kk _ => n - (intOf kk).toNat)
      case atStart => exact ⟨20, d2, by omega, by omega, rfl, HB3, HP3, hS2, HE3.out⟩
      case round =>
        clear hS2 HB3 HP3 HE3
        rename World => wr
        obtain ⟨k, dk, hk1, hk2, rfl, HB, HP, hS, hE⟩ := hrel
        by_cases hlt : k < n
        · have hki : (k : Int) < (n : Int) := by omega
          obtain ⟨q, hq⟩ : ∃ q : Nat, 2 * k = q := ⟨_, rfl⟩
          have hqi : (2 : Int) * (k : Int) = (q : Int) := by omega
          have hqi2 : (k : Int) * (2 : Int) = (q : Int) := by omega
          have hq3 : q ≤ 2097152 := by omega
          have hq4 : k < q := by omega
          have iwq : IntKind.i64.wrap (q : Int) = (q : Int) := IntWalk.i64_in _ (by omega)
          have HQ := Lib.hid hq
          clear hq
          go_wp2
          go_loopw [7, 8] (fun aa bb wr => ∃ (a b : Nat) (dj : Array Fr), a ≤ n ∧ b ≤ n + q ∧ aa = .int .i64 a ∧ bb = .int .i64 b ∧ Hid (a + q = b) ∧ Hid (q ∣ a) ∧ Hid (SB ltF q 0 a dj ∧ SB ltF k a n dj) ∧ Hid (PermIn 0 n d dj) ∧ SR B g cap dj wr ∧ Exc (DG g) w wr) (fun aa bb _ => n + q - (intOf bb).toNat)
          case atStart => exact ⟨0, q, dk, by omega, by omega, rfl, rfl, Lib.hid (by omega), Lib.hid ⟨0, rfl⟩, Lib.hid ⟨SB.nil _ _ _ _, HB.out⟩, HP, hS, hE⟩
          case round =>
            clear hS hE HB HP
            rename World => wj
            obtain ⟨a, b, dj, han, hbn, rfl, rfl, HAB, HD, HB, HP, hS, hE⟩ := hrel
            have HDS := Lib.hid (show dj.size = d.size from HP.out.1)
            obtain ⟨m, hm⟩ : ∃ m : Nat, a + k = m := ⟨_, rfl⟩
            have hmi : (a : Int) + (k : Int) = (m : Int) := by omega
            have iwm : IntKind.i64.wrap (m : Int) = (m : Int) := IntWalk.i64_in _ (by omega)
            have ham : a < m := by omega
            have HM := Lib.hid hm
            clear hm
            by_cases hlb : b ≤ n
            · have hlbi : (b : Int) ≤ (n : Int) := by omega
              obtain ⟨b2, hb2⟩ : ∃ k : Nat, b + q = k := ⟨_, rfl⟩
              have hb2i : (b : Int) + (q : Int) = (b2 : Int) := by omega
              have iwb2 : IntKind.i64.wrap (b2 : Int) = (b2 : Int) := IntWalk.i64_in _ (by omega)
              have HB2 := Lib.hid hb2
              have hmb : m < b := by have := HM.out; have := HAB.out; omega
              clear hb2
              have hso := st_two HB.out.2 HQ.out HD.out HM.out (by have := HAB.out; omega) hlb (by omega)
              have hc := symMerge_aux (B := B) (g := g) (cap := cap) (b - a) a m b dj wj (Nat.le_refl _) ham hmb (by have := HDS.out; omega) (by rw [HDS.out]; exact hsz) hS hso.1 hso.2
              rw [HDS.out] at hc
              go_wp2_with fail
              refine hc.mono ?_
              rintro e w2 ⟨rfl, d2, ⟨g1, g2⟩, hS2, g4⟩
              have hst := st_step HB.out.1 HB.out.2 (by omega) HD.out HAB.out g1 g2
              have HB3 := Lib.hid (And.intro hst.1 hst.2.1)
              have HP3 := Lib.hid (permIn_trans _ _ _ _ _ HP.out (permIn_mono _ _ _ _ 0 n (Nat.zero_le _) hlb (by rw [HDS.out]; exact hn) g1))
              have HE3 := Lib.hid (hE.trans g4)
              have HD3 := Lib.hid hst.2.2
              have HS3 := Lib.hid hS2
              clear hc g1 g2 hS2 g4 hS hE hso hst
              go_wp2
              go_roundw
              case rel => exact ⟨b, b2, d2, by omega, by have := HB2.out; omega, rfl, by go_num, HB2, HD3, HB3, HP3, HS3.out, HE3.out⟩
              case measure => simp [intOf]; have := HB2.out; omega
            · have hlbi : ¬ (b : Int) ≤ (n : Int) := by omega
              by_cases hmn : m < n
              · have hmni : (m : Int) < (n : Int) := by omega
                have hso := st_two HB.out.2 HQ.out HD.out HM.out (by have := HAB.out; omega) (Nat.le_refl n) (by omega)
                have hc := symMerge_aux (B := B) (g := g) (cap := cap) (n - a) a m n dj wj (Nat.le_refl _) ham hmn (by have := HDS.out; omega) (by rw [HDS.out]; exact hsz) hS hso.1 hso.2
                rw [HDS.out] at hc
                go_wp2_with fail
                refine hc.mono ?_
                rintro e w2 ⟨rfl, d2, ⟨g1, g2⟩, hS2, g4⟩
                have HB3 := Lib.hid (st_ins HB.out.1 (by omega) HD.out g1 g2)
                have HP3 := Lib.hid (permIn_trans _ _ _ _ _ HP.out (permIn_mono _ _ _ _ 0 n (Nat.zero_le _) (Nat.le_refl _) (by rw [HDS.out]; exact hn) g1))
                have HE3 := Lib.hid (hE.trans g4)
                have HS3 := Lib.hid hS2
                clear hc g1 g2 hS2 g4 hS hE hso
                go_wp2
                go_roundw
                case rel => exact ⟨q, d2, by omega, hq3, by go_num, HB3, HP3, HS3.out, HE3.out⟩
                case measure => simp [intOf]; omega
              · have hmni : ¬ (m : Int) < (n : Int) := by omega
                have HB3 := Lib.hid (show SB ltF q 0 n dj from SB.glue HB.out.1 (HB.out.2.sorted (dvd_half HQ.out HD.out) (Nat.le_refl _) (by have := HM.out; omega) (Nat.le_refl _)) (by omega) HD.out)
                have HS3 := Lib.hid hS
                have HE3 := Lib.hid hE
                clear hS hE
                go_wp2
                go_roundw
                case rel => exact ⟨q, dj, by omega, hq3, by go_num, HB3, HP, HS3.out, HE3.out⟩
                case measure => simp [intOf]; omega
        · have hki : ¬ (k : Int) < (n : Int) := by omega
          have HFin := Lib.hid (And.intro HP.out (HB.out.all (by omega)))
          have HS3 := Lib.hid hS
          have HE3 := Lib.hid hE
          clear hS hE
          go_wp2
          exact bodyPost_end (by simp [results, Try.results70]) rfl ⟨rfl, dk, HFin.out, HS3.out, HE3.out⟩
set_option maxRecDepth 100000 in
set_option maxHeartbeats 4000000 in
theorem sortStable_any {B g cap : Nat} {d : Array Fr} {w : World} (h : SR B g cap d w) (hsz : d.size ≤ 1048576) :
    Calls Try.prog 53 #[.slice (some ⟨g, 0, none⟩) d.size cap, .func (.func 54) #[] #[]] w fun e w' => e = .returned (.tuple #[]) ∧ ∃ d', (PermIn 0 d.size d d' ∧ SortedIn ltF 0 d.size d') ∧ SR B g cap d' w' ∧ Exc (DG g) w w' := by
  go_enter Try.func53, Try.ntmps53
  have hc := stable_any h (Nat.le_refl _) hsz
  go_wp2_with fail
  refine hc.mono ?_
  rintro e w2 ⟨rfl, d2, g1, hS2, g4⟩
  go_wp2
  exact bodyPost_end (by simp [results, Try.results53]) rfl ⟨rfl, d2, g1, hS2, g4⟩
end Go.Proofs.Ytijlaknfagpglaa
