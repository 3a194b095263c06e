/- Package runs, at int: slices.Grow, slices.Concat. No condition but the sizes. -/
import Derived.Test.YtaalhicdeibodaaRai
import Derived.Lib.AppendZerosOnto
import Derived.OwnWalk
namespace Go.Proofs.Ytaalhicdeibodaa
open Go.RowKit Go.Proofs Go.Shelf
set_option linter.unusedVariables false
theorem infoRi : (Try.prog.info? 94).map (fun i => (i.zero, i.size, i.bytes)) = some (some (.agg #[.int .i64 0, .int .i64 0]), 2, 16) := by kernel_rfl
theorem ronei (L : List Rn) : ∀ u ∈ L.flatMap rci, u.oneCell' = true := by
  intro u hu
  obtain ⟨r, _, hr⟩ := List.mem_flatMap.1 hu
  simp only [List.mem_cons, List.not_mem_nil, or_false] at hr
  rcases hr with rfl | rfl <;> rfl
set_option maxRecDepth 100000 in
set_option maxHeartbeats 1000000 in
theorem grow_anyi {n : Nat} {w : World} (h0 : 1 ≤ n) (hn : n ≤ 8796093022208) :
    Calls Try.prog 74 #[.slice none 0 0, .int .i64 n] w fun e w' => ∃ g cap, e = .returned (.slice (some ⟨g, 0, none⟩) 0 cap) ∧ n ≤ cap ∧ w'.ownsRow w.heap.size 94 2 (.slice (some ⟨g, 0, none⟩) 0 cap) 0 [] ∧ Ext w w' := by
  obtain ⟨i0, hi, hz0, hz1, hz2⟩ := info_parts infoRi
  have happ := Lib.run_append_nil_zeros (P := Try.prog) w 90 3 90 94 i0 _ .i64 .i64 Try.underlying90 Try.underlying3 hi hz0 n (by omega) (by omega) (by omega) (by rw [hz2]; omega)
  generalize hcap : grownCap w n 0 94 = cap2 at happ
  have hcapge : n ≤ cap2 := by rw [← hcap]; exact grownCap_ge w _ 0 _
  have hcaple : cap2 ≤ maxLen := by rw [← hcap]; exact grownCap_le_maxLen w _ 0 _ (by unfold maxLen; omega)
  generalize hZ : (Builtin.zeroCells _ n ++ Builtin.zeroCells _ (cap2 - n)) = Z at happ
  have hZs : Z.size = cap2 * 2 := by rw [← hZ]; simp [size_zeroCells, Value.cells]; omega
  clear hcap hZ
  go_enter Try.func74, Try.ntmps74
  go_wp2_with (at_builtin; refine Lib.wpList_append_run _ rfl _ _ _ _ rfl _ _ rfl rfl _ _ happ ?_)
  go_ret
  have hb : ((w.drew).alloc (.cells Z 94)).heap[w.heap.size]? = some (.cells Z 94 (0, 0)) := heap_alloc_new w.drew _
  exact ⟨_, _, rfl, hcapge, ⟨by simp, .inr ⟨w.heap.size, cap2, Z, rfl, Nat.le_refl _, hb, Nat.zero_le _, hcaple, hZs, by simp⟩⟩, (ext_alloc w (.cells Z 94)).drew⟩
structure Pt where
  A : Option Addr
  c : Nat
  L : List Rn
abbrev Pt.v (p : Pt) : Value := .slice p.A p.L.length p.c
def catT (ps : List Pt) (k : Nat) : List Rn := (ps.take k).flatMap Pt.L
theorem catT_succ {ps : List Pt} {k : Nat} {p : Pt} (h : ps[k]? = some p) : catT ps (k + 1) = catT ps k ++ p.L := by
  obtain ⟨h1, rfl⟩ := List.getElem?_eq_some_iff.1 h
  unfold catT
  rw [List.take_succ_eq_append_getElem h1, List.flatMap_append]
  simp
theorem catT_le (ps : List Pt) (k : Nat) : (catT ps k).length ≤ (catT ps ps.length).length := by
  unfold catT
  rw [List.take_length]
  conv => rhs; rw [← List.take_append_drop k ps, List.flatMap_append, List.length_append]
  omega
set_option maxRecDepth 100000 in
set_option maxHeartbeats 1000000 in
theorem concat_anyi {ps : List Pt} {gl cl : Nat} {w : World} (hh : w.heap[gl]? = some (.cells (ps.map Pt.v).toArray 90 (0, 0))) (hcl : ps.length ≤ cl) (hpl : ps.length ≤ 1000) (hrow : ∀ p ∈ ps, RowRi 0 w p.A p.c p.L) (h0 : 1 ≤ (catT ps ps.length).length) (hn : (catT ps ps.length).length ≤ 8796093022208) :
    Calls Try.prog 70 #[.slice (some ⟨gl, 0, none⟩) ps.length cl] w fun e w' => ∃ A c, e = .returned (.slice A (catT ps ps.length).length c) ∧ RowRi w.heap.size w' A c (catT ps ps.length) ∧ Ext w w' := by
  obtain ⟨i0, hi, hz0, hz1, hz2⟩ := info_parts infoRi
  have HR := Lib.hid hrow
  clear hrow
  have hle := catT_le ps
  go_enter Try.func70, Try.ntmps70
  go_wp2
  go_loopw [3, 11] (fun s i wr => ∃ k : Nat, k ≤ ps.length ∧ i = .int .i64 k ∧ s = .int .i64 (catT ps k).length ∧ w = wr) (fun _ i _ => ps.length - (intOf i).toNat)
  case atStart => exact ⟨0, Nat.zero_le _, rfl, rfl, rfl⟩
  case round =>
    obtain ⟨k, hk, rfl, rfl, rfl⟩ := hrel
    by_cases hlt : k < ps.length
    · obtain ⟨p, hp⟩ : ∃ p, ps[k]? = some p := ⟨_, List.getElem?_eq_getElem hlt⟩
      have hq : w.cell? ⟨gl, k, none⟩ = some p.v := by rw [cell_of_row w gl k _ _ _ hh]; simp [hp]
      have hs := catT_succ hp
      have h1 := hle k
      have h2 := hle (k + 1)
      have HS : Hid ((catT ps (k + 1)).length = (catT ps k).length + p.L.length) := Lib.hid (by rw [hs, List.length_append])
      have h3 : (catT ps k).length + p.L.length ≤ 8796093022208 := by have := HS.out; omega
      clear hs hp h2
      go_wp2
      go_roundw
      case rel => exact ⟨k + 1, by omega, by go_num, by rw [HS.out]; simp, trivial⟩
      case measure => simp [intOf]; omega
    · obtain rfl : k = ps.length := by omega
      go_wp2_with fail
      refine (grow_anyi h0 hn).mono ?_
      rintro e w1 ⟨g, cap, rfl, hcap, hown, hE1⟩
      go_wp2
      go_loopw [6, 27] (fun s i wr => ∃ k : Nat, k ≤ ps.length ∧ i = .int .i64 k ∧ s = .slice (some ⟨g, 0, none⟩) (catT ps k).length cap ∧ wr.ownsRow w.heap.size 94 2 (.slice (some ⟨g, 0, none⟩) (catT ps k).length cap) (catT ps k).length ((catT ps k).flatMap rci) ∧ Ext w wr) (fun _ i _ => ps.length - (intOf i).toNat)
      case atStart => exact ⟨0, Nat.zero_le _, rfl, rfl, hown, hE1⟩
      case round =>
        clear hown hE1
        obtain ⟨k, hk, rfl, rfl, hown, hE⟩ := hrel
        by_cases hlt : k < ps.length
        · obtain ⟨p, hp⟩ : ∃ p, ps[k]? = some p := ⟨_, List.getElem?_eq_getElem hlt⟩
          have hq : wr.cell? ⟨gl, k, none⟩ = some p.v := by rw [cell_of_row wr gl k _ _ _ (hE.blk hh)]; simp [hp]
          have hr := (HR.out p (List.mem_of_getElem? hp)).ext hE
          have hs := catT_succ hp
          have h2 := hle (k + 1)
          have HS := Lib.hid hs
          have hfit : (catT ps k).length + p.L.length ≤ cap := by rw [hs, List.length_append] at h2; omega
          have hnone : p.A = none → p.L.length = 0 ∧ p.c = 0 := fun h => by
            rcases hr.2 with ⟨hv, h0⟩ | ⟨g, cap, cur, hv, _⟩
            · injection hv with _ _ hc
              exact ⟨h0, hc⟩
            · injection hv with h1 _ _
              rw [h] at h1; cases h1
          have hcs : ∀ ad, p.A = some ad → ∀ j u, (p.L.flatMap rci)[j]? = some u → wr.cell? (ad.add j) = some u := fun ad had j u hu => by
            rcases hr.2 with ⟨hv, h0⟩ | ⟨g, cap, cur, hv, _⟩
            · injection hv with h1 _ _
              rw [had] at h1; cases h1
            · injection hv with h1 _ _
              rw [had] at h1
              injection h1 with h1
              subst h1
              exact World.ownsRow.cells hr (g := g) (by rw [had]; rfl) j u hu
          have hgB := (hown.lt g rfl).1
          clear hs hp h2
          go_wp2_with (at_builtin; refine wpList_append_fits_any wr rfl _ _ 90 rfl w.heap.size 94 i0 2 Try.underlying90 hi hz1 g (catT ps k).length cap _ rfl hown p.A p.L.length p.c (p.L.flatMap rci) rfl (rleni _) hnone hcs (ronei _) hfit ?_; intro w3 hown3 hg3)
          have hE3 := ext_only hE hg3 hgB
          have e1 : (catT ps (k + 1)).length = (catT ps k).length + p.L.length := by rw [HS.out, List.length_append]
          rw [← List.flatMap_append, ← HS.out] at hown3
          go_roundw
          case rel => exact ⟨k + 1, by omega, by go_num, by rw [e1], by rw [e1]; exact hown3, hE3⟩
          case measure => simp [intOf]; omega
        · obtain rfl : k = ps.length := by omega
          go_wp2
          go_ret
          exact ⟨_, _, rfl, hown, hE⟩
end Go.Proofs.Ytaalhicdeibodaa
