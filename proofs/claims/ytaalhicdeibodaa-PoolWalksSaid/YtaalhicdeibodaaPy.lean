/- Layer 10: likely. No condition but the sizes. -/
import Derived.Test.YtaalhicdeibodaaPx
namespace Go.Proofs.Ytaalhicdeibodaa
open Go.RowKit Go.Proofs Go.Shelf
set_option linter.unusedVariables false
attribute [local go_sem] Oper.semAt_some
theorem sts_in {s : Pl} {N : Nat} (h : s.Ok N) : ∀ x ∈ s.sts, 1 ≤ x ∧ x ≤ 4 := fun x hx => by
  obtain ⟨i, hi, rfl⟩ := List.getElem_of_mem hx
  have hl : s.sts.length = s.cnt.length := sts_len h.last
  have := sts_at h.last (i := i) (by omega)
  rw [List.getD_eq_getElem?_getD, List.getElem?_eq_getElem hi, Option.getD_some] at this
  rw [this]
  exact stOf_bd _ _
theorem tal_pages {s : Pl} {N : Nat} (h : s.Ok N) (k : Int) : talOf s.sts k = ((s.pages k).length : Int) := by
  have hl : s.sts.length = s.cnt.length := sts_len h.last
  have := pgsTo_tal s.sts k
  rw [hl] at this
  unfold Pl.pages
  rw [this]
  unfold talOf
  by_cases hk : 1 ≤ k ∧ k ≤ 4
  · rw [if_pos hk]
  · rw [if_neg hk]
    have h0 : s.sts.count k = 0 := List.count_eq_zero.2 fun hm => hk (sts_in h k hm)
    omega
theorem pages_bd {s : Pl} {N : Nat} (h : s.Ok N) (k : Int) : (s.pages k).length ≤ 65536 ∧ ∀ z ∈ s.pages k, 1 ≤ z ∧ z ≤ s.cnt.length := by
  have h1 := pgsTo_len s.sts k s.cnt.length
  have h2 := h.len.2
  refine ⟨by unfold Pl.pages; omega, fun z hz => ?_⟩
  unfold Pl.pages pgsTo at hz
  obtain ⟨j, hj, rfl⟩ := List.mem_map.1 hz
  have := List.mem_range.1 (List.mem_filter.1 hj).1
  omega
theorem stopL_neg (l : List Int) : stopL (-1) l = l := by simp [stopL]
theorem RowI.nlp {B N : Nat} {w : World} {A : Option Addr} {c : Nat} {s : Pl} {k : Int} (h : RowI B w A c (s.pages k)) (hok : s.Ok N) : NLi w A c (s.pages k) := h.nl (fun z hz => by
  have := (pages_bd hok k).2 z hz
  have := hok.len.2
  omega)
theorem RowI.nlc {B N : Nat} {w : World} {A : Option Addr} {c : Nat} {s : Pl} (h : RowI B w A c s.cnt) (hok : s.Ok N) : NLi w A c s.cnt := h.nl (fun z hz => by
  have := hok.cnt z hz
  have := hok.refs
  omega)
set_option maxRecDepth 100000 in
set_option maxHeartbeats 2000000 in
theorem likely_any {B B' N : Nat} {w : World} {m : Pm} {r : Rm} {s : Pl} (hP : PoolS B N w m s) (hQ : RefS B' N w r s) (hN : N ≤ 100000) :
    Calls Try.prog 24 #[.pointer (some ⟨m.p, 0, none⟩), .pointer (some ⟨r.p, 0, none⟩)] w fun e w' => e = .returned (.bool true) ∧ Ext w w' := by
  have hok := hP.ok
  have hlen := hok.len
  have b1 : ((s.cnt.length : Int) != (s.cnt.length : Int)) = false := by simp
  have b2 : (s.refs != s.refs) = false := by simp
  have b3 : ((s.acts.length : Int) != (s.acts.length : Int)) = false := by simp
  go_enter Try.func24, Try.ntmps24
  go_wp2_with fail
  refine (len_pool hP).mono ?_
  rintro e w1 ⟨rfl, rfl⟩
  go_wp2_with fail
  refine (rlen_any hQ.mem).mono ?_
  rintro e w1 ⟨rfl, rfl⟩
  go_wp2_with fail
  refine (refs_pool hP).mono ?_
  rintro e w1 ⟨rfl, rfl⟩
  go_wp2_with fail
  refine (rrefs_any hQ.mem).mono ?_
  rintro e w1 ⟨rfl, rfl⟩
  go_wp2_with fail
  refine (mark_wide hP hN).mono ?_
  rintro e w1 ⟨rfl, hE1⟩
  go_wp2_with fail
  refine (rmark_any (hQ.ext hE1).mem).mono ?_
  rintro e w2 ⟨rfl, rfl⟩
  go_wp2_with fail
  refine (counts_any (hP.ext hE1)).mono ?_
  rintro e w2 ⟨A1, c1, rfl, hR1, hE2⟩
  have hE12 := hE1.trans hE2
  go_wp2_with fail
  refine (rcounts_any (hQ.ext hE12)).mono ?_
  rintro e w3 ⟨A2, c2, rfl, hR2, hE3⟩
  have hE13 := hE12.trans hE3
  have hq := eqi_any (RowI.nlc (own_ext hR1 hE3 : RowI _ _ _ _ _) hok) (RowI.nlc hR2 hok) (by omega) (by omega)
  rw [decide_eq_true rfl] at hq
  go_wp2_with fail
  refine hq.mono ?_
  rintro e w4 ⟨rfl, hE4⟩
  have hE14 := hE13.trans hE4
  clear hq hR1 hR2 hE1 hE2 hE3 hE4 hE12 hE13
  go_wp2
  go_loopw [5] (fun i wr => ∃ k : Nat, k ≤ 6 ∧ i = .int .i64 k ∧ Ext w wr) (fun i _ => 6 - (intOf i).toNat)
  case atStart => exact ⟨0, by omega, rfl, hE14⟩
  case round =>
    clear hE14
    obtain ⟨k, hk, rfl, hE⟩ := hrel
    rename World => v1
    by_cases hk6 : k < 6
    · have hk5 : (k : Int) ≤ 5 := by omega
      have htp := tal_pages hok (k : Int)
      have hpb := (pages_bd hok (k : Int)).1
      have b4 : (((s.pages (k : Int)).length : Int) != ((s.pages (k : Int)).length : Int)) = false := by simp
      go_wp2_with fail
      refine (rpages_any (hQ.ext hE) (k : Int)).mono ?_
      rintro e v2 ⟨A3, c3, rfl, hR3, hE3⟩
      have hE4 := hE.trans hE3
      have ht := tally_pool (hP.ext hE4) (k : Int)
      rw [htp] at ht
      have HTP := Lib.hid htp
      clear htp
      go_wp2_with fail
      refine ht.mono ?_
      rintro e v3 ⟨rfl, rfl⟩
      clear ht
      have hw := walked_any (hP.ext hE4) (k : Int) (-1)
      rw [stopL_neg] at hw
      go_wp2_with fail
      refine hw.mono ?_
      rintro e v3 ⟨A5, c5, rfl, hR5, hE5⟩
      have hq := eqi_any (RowI.nlp hR5 hok) (RowI.nlp (own_ext hR3 hE5 : RowI _ _ _ _ _) hok) (by omega) (by omega)
      rw [decide_eq_true rfl] at hq
      clear hw
      go_wp2_with fail
      refine hq.mono ?_
      rintro e v4 ⟨rfl, hE6⟩
      have hE7 := hE4.trans (hE5.trans hE6)
      clear hq hR3 hR5 hE3 hE4 hE5 hE6
      go_wp2
      go_roundw
      case rel => exact ⟨k + 1, by omega, by go_num, hE7⟩
      case measure => simp [intOf]; omega
    · obtain rfl : k = 6 := by omega
      have hP2 := hP.ext hE
      have hQ2 := hQ.ext hE
      have z1 := count_pool hP2 0
      rw [show cntAt s.cnt 0 = 0 from if_neg (by omega)] at z1
      have z2 := state_pool hP2 0
      rw [show stAt s.cnt s.last 0 = 0 from if_neg (by omega)] at z2
      have z3 := count_pool hP2 ((s.cnt.length : Int) + 1)
      rw [show cntAt s.cnt ((s.cnt.length : Int) + 1) = 0 from if_neg (by omega)] at z3
      have z4 := state_pool hP2 ((s.cnt.length : Int) + 1)
      rw [show stAt s.cnt s.last ((s.cnt.length : Int) + 1) = 0 from if_neg (by omega)] at z4
      go_wp2_with fail
      refine z1.mono ?_
      rintro e v2 ⟨rfl, rfl⟩
      go_wp2_with fail
      refine z2.mono ?_
      rintro e v2 ⟨rfl, rfl⟩
      go_wp2_with fail
      refine (rlen_any hQ2.mem).mono ?_
      rintro e v2 ⟨rfl, rfl⟩
      go_wp2_with fail
      refine z3.mono ?_
      rintro e v2 ⟨rfl, rfl⟩
      go_wp2_with fail
      refine (rlen_any hQ2.mem).mono ?_
      rintro e v2 ⟨rfl, rfl⟩
      go_wp2_with fail
      refine z4.mono ?_
      rintro e v2 ⟨rfl, rfl⟩
      clear z1 z2 z3 z4
      go_wp2
      go_ret
      exact ⟨rfl, hE⟩
end Go.Proofs.Ytaalhicdeibodaa
