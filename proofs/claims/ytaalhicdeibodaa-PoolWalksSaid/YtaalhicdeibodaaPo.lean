/- Layer 10: CopyInts; the document's Counts, Pages, Tally. No condition but the sizes. -/
import Derived.Test.YtaalhicdeibodaaPn
namespace Go.Proofs.Ytaalhicdeibodaa
open Go.RowKit Go.Proofs Go.Shelf
set_option linter.unusedVariables false
attribute [local go_sem] Oper.semAt_some
theorem ext_grown0 {w w' : World} (hg : w.grownBy w' none) : Ext w w' := ⟨hg.os, hg.tape, hg.output, hg.size, fun k hk => hg.block k hk (fun e => by cases e)⟩
theorem ic_take_succ {l : List Int} {k : Nat} (hk : k < l.length) : ic (l.take (k + 1)) = ic (l.take k) ++ [.int .i64 (l.getD k 0)] := by
  rw [List.take_succ_eq_append_getElem hk]
  simp only [ic, List.map_append, List.map_cons, List.map_nil, List.getD_eq_getElem?_getD, List.getElem?_eq_getElem hk, Option.getD_some]
theorem news_int (W : World) (z : Int) (t : TypeId) : ∀ (j : Nat) u, ([Value.int .i64 z])[j]? = some u → (W.alloc (.cells #[.int .i64 z] t)).cell? ((⟨W.heap.size, 0, none⟩ : Addr).add j) = some u := by
  intro j u hj
  have h := heap_alloc_new W (Obj.cells #[.int .i64 z] t)
  rw [Addr.add_lit, cell_of_row _ _ _ _ _ _ h, Nat.zero_add]
  simpa using hj
theorem int_one (z : Int) : ∀ u ∈ [Value.int .i64 z], u.oneCell' = true := by
  intro u hu
  rcases List.mem_cons.1 hu with rfl | hu
  · rfl
  · cases hu
/-- What an append onto a row of the call's own turns. -/
theorem app_ext {w0 w w' : World} {B n : Nat} {e : TypeId} {size : Nat} {v v' : Value} {xs : List Value} (h0 : Ext w0 w) (ho : w.ownsRow w0.heap.size e size v n xs)
    (hc : (∃ A c, v = .slice A n c ∧ v' = .slice A (n + 1) c ∧ w.grownBy w' v.ownBlock) ∨ (w.grownBy w' none ∧ ∀ g, v'.ownBlock = some g → w.heap.size ≤ g)) : Ext w0 w' := by
  rcases hc with ⟨A, c, _, _, hg⟩ | ⟨hg, _⟩
  · cases hb : v.ownBlock with
    | none => rw [hb] at hg; exact h0.trans (ext_grown0 hg)
    | some g => rw [hb] at hg; exact ext_only h0 hg (World.ownsRow.lt ho g hb).1
  · exact h0.trans (ext_grown0 hg)
set_option maxRecDepth 100000 in
set_option maxHeartbeats 1000000 in
theorem copyInts_any {w : World} {A : Option Addr} {c : Nat} {l : List Int} (hx : NLi w A c l) (hl : l.length ≤ 17592186044416) :
    Calls Try.prog 66 #[.slice A l.length c] w fun e w' => ∃ A' c', e = .returned (.slice A' l.length c') ∧ RowI w.heap.size w' A' c' l ∧ Ext w w' := by
  obtain ⟨i0, hi, hz0, hz1, hz2⟩ := info_split infoI
  go_enter Try.func66, Try.ntmps66
  go_wp2_with (at_make; refine wpList_make_own _ rfl _ _ 22 rfl w.heap.size 3 i0 (.int .i64 0) 1 Try.underlying22 hi hz0 hz1 _ _ _ l.length rfl rfl rfl (by rw [hz2]; omega) (by simp [maxLen]; omega) (Nat.le_refl _) ?_; intro w1 hown1 hgrow1)
  go_loopw [3, 4] (fun v i wr => ∃ k : Nat, k ≤ l.length ∧ i = .int .i64 k ∧ wr.ownsRow w.heap.size 3 1 v k (ic (l.take k)) ∧ Ext w wr) (fun _ i _ => l.length - (intOf i).toNat)
  case atStart => exact ⟨0, Nat.zero_le _, rfl, hown1, ext_make hgrow1⟩
  case round =>
    clear hown1 hgrow1
    obtain ⟨k, hk, rfl, hown, hE⟩ := hrel
    rename World => v1
    by_cases hlt : k < l.length
    · obtain ⟨u, hu⟩ : ∃ u, l[k]? = some u := ⟨_, List.getElem?_eq_getElem hlt⟩
      obtain ⟨b, off, rfl, hkc, hcu⟩ := hx.at hu
      have hck := hcu v1 hE
      have hts := ic_take_succ hlt
      rw [show l.getD k 0 = u by simp [List.getD_eq_getElem?_getD, hu]] at hts
      have HTS := Lib.hid hts
      have hsz := hE.size
      clear hcu hts hu
      go_wp2_with (at_builtin; refine wpList_append_apart rfl _ _ 22 rfl w.heap.size 3 i0 _ 1 8 Try.underlying22 hi hz0 hz1 hz2 rfl (by decide) _ k _ rfl (hown.alloc _) ⟨v1.heap.size, 0, none⟩ 1 1 [.int .i64 u] rfl rfl (news_int _ _ _) (int_one _) (by decide) (by unfold maxLen; omega) (by omega) (by simp; omega) ?_; intro v' w3 ho3 hc3)
      have hE3 := app_ext (B := 0) (hE.trans (ext_alloc _ _)) (hown.alloc _) hc3
      rw [← HTS.out] at ho3
      clear hc3 hown hck
      go_wp2
      go_roundw
      case rel => exact ⟨k + 1, by omega, by go_num, ho3, hE3⟩
      case measure => simp [intOf]; omega
    · obtain rfl : k = l.length := by omega
      rw [List.take_length] at hown
      obtain ⟨A', c', rfl⟩ := slice_of_own hown
      go_wp2
      go_ret
      exact ⟨A', c', rfl, hown, hE⟩
theorem rcounts_any {B N : Nat} {w : World} {r : Rm} {s : Pl} (h : RefS B N w r s) :
    Calls Try.prog 46 #[.pointer (some ⟨r.p, 0, none⟩)] w fun e w' => ∃ A c, e = .returned (.slice A s.cnt.length c) ∧ RowI w.heap.size w' A c s.cnt ∧ Ext w w' := by
  have hr := h.ok.refs
  have hlen := h.ok.len
  have c1 : w.cell? ⟨r.p, 1, none⟩ = some (.slice r.cA s.cnt.length r.cc) := h.mem.c 1
  have hcl := copyInts_any (h.mem.cn.nl (fun z hz => by have := h.ok.cnt z hz; omega)) (by omega)
  go_enter Try.func46, Try.ntmps46
  go_wp2_with fail
  refine hcl.mono ?_
  rintro e w2 ⟨A, c, rfl, h1, h2⟩
  go_wp2
  go_ret
  exact ⟨A, c, rfl, h1, h2⟩
theorem pgs_ic_succ (sts : List Int) (k : Int) (i : Nat) (h : sts.getD i 0 = k) : ic (pgsTo sts k (i + 1)) = ic (pgsTo sts k i) ++ [.int .i64 ((i : Int) + 1)] := by
  rw [pgsTo_succ, if_pos h]
  simp [ic]
theorem pgs_len_succ (sts : List Int) (k : Int) (i : Nat) (h : sts.getD i 0 = k) : (pgsTo sts k (i + 1)).length = (pgsTo sts k i).length + 1 := by
  rw [pgsTo_succ, if_pos h]
  simp
set_option maxRecDepth 100000 in
set_option maxHeartbeats 1000000 in
theorem rpages_any {B N : Nat} {w : World} {r : Rm} {s : Pl} (h : RefS B N w r s) (kk : Int) :
    Calls Try.prog 47 #[.pointer (some ⟨r.p, 0, none⟩), .int .i64 kk] w fun e w' => ∃ A c, e = .returned (.slice A (s.pages kk).length c) ∧ RowI w.heap.size w' A c (s.pages kk) ∧ Ext w w' := by
  obtain ⟨i0, hi, hz0, hz1, hz2⟩ := info_split infoI
  have hok := h.ok
  have hlen := hok.len
  have hsl : s.sts.length = s.cnt.length := sts_len hok.last
  have c1' : ∀ W, Ext w W → W.cell? ⟨r.p, 1, none⟩ = some (.slice r.cA s.cnt.length r.cc) := fun W hW => (h.mem.ext hW).c 1
  have hlit := World.ownsRow_lit (base := w.heap.size) (e := 3) (size := 1) w #[] 0 (Nat.le_refl _) (by decide) rfl
  go_enter Try.func47, Try.ntmps47
  go_wp2
  go_loopw [5, 6] (fun v i wr => ∃ (k : Nat) (A : Option Addr) (c : Nat), k ≤ s.cnt.length ∧ i = .int .i64 ((k : Int) + 1) ∧ v = .slice A (pgsTo s.sts kk k).length c ∧ RowI w.heap.size wr A c (pgsTo s.sts kk k) ∧ Ext w wr) (fun _ i _ => s.cnt.length + 1 - (intOf i).toNat)
  case atStart => exact ⟨0, some ⟨w.heap.size, 0, none⟩, 0, Nat.zero_le _, rfl, rfl, hlit, ext_alloc _ _⟩
  case round =>
    clear hlit
    obtain ⟨k, A, c, hk, rfl, rfl, hR, hE⟩ := hrel
    rename World => v1
    have c1 := c1' v1 hE
    by_cases hkl : k < s.cnt.length
    · have h2 := h.ext hE
      have hst := rstate_any h2.mem hok.last hok.len.2 (fun c hc => (hok.cnt c hc).1) ((k : Int) + 1)
      have est : stAt s.cnt s.last ((k : Int) + 1) = s.sts.getD k 0 := by
        rw [stAt_eq hok.last, if_pos ⟨by omega, by omega⟩, show ((k : Int) + 1 - 1).toNat = k by omega]
      rw [est] at hst
      have hpl := pgsTo_len s.sts kk k
      have hsz := hE.size
      by_cases h1 : s.sts.getD k 0 = kk
      · have hps := Lib.hid (pgs_ic_succ s.sts kk k h1)
        have hpn := Lib.hid (pgs_len_succ s.sts kk k h1)
        rw [h1] at hst
        clear est h1
        obtain ⟨n, hn⟩ : ∃ n, (pgsTo s.sts kk k).length = n := ⟨_, rfl⟩
        unfold RowI at hR
        rw [hn] at hR hpl
        have HN := Lib.hid hn
        rw [hn]
        clear hn
        go_wp2_with fail
        refine hst.mono ?_
        rintro e w2 ⟨rfl, rfl⟩
        clear hst
        go_wp2_with (at_builtin; refine wpList_append_apart rfl _ _ 22 rfl w.heap.size 3 i0 _ 1 8 Try.underlying22 hi hz0 hz1 hz2 rfl (by decide) _ n _ rfl (hR.alloc _) ⟨v1.heap.size, 0, none⟩ 1 1 [.int .i64 ((k : Int) + 1)] rfl rfl (news_int _ _ _) (int_one _) (by decide) (by unfold maxLen; omega) (by omega) (by simp; omega) ?_; intro v' w3 ho3 hc3)
        have hE3 := app_ext (B := 0) (hE.trans (ext_alloc _ _)) (hR.alloc _) hc3
        obtain ⟨A3, c3, rfl⟩ := slice_of_own ho3
        rw [← hps.out] at ho3
        have hR3 : RowI w.heap.size w3 A3 c3 (pgsTo s.sts kk (k + 1)) := by
          unfold RowI
          rw [hpn.out, HN.out]
          exact ho3
        have hNN : Hid ((pgsTo s.sts kk (k + 1)).length = n + 1) := Lib.hid (by rw [hpn.out, HN.out])
        clear hc3 hR ho3
        go_wp2
        go_roundw
        case rel => exact ⟨k + 1, A3, c3, by omega, by go_num, by rw [hNN.out], hR3, hE3⟩
        case measure => simp [intOf]; omega
      · obtain ⟨z, hz⟩ : ∃ z, s.sts.getD k 0 = z := ⟨_, rfl⟩
        have hps : pgsTo s.sts kk (k + 1) = pgsTo s.sts kk k := by rw [pgsTo_succ, if_neg h1, List.append_nil]
        rw [hz] at hst h1
        have HP := Lib.hid hps
        have hb : (z == kk) = false := by simpa using h1
        clear hz est hps
        go_wp2_with fail
        refine hst.mono ?_
        rintro e w2 ⟨rfl, rfl⟩
        clear hst
        go_wp2
        go_roundw
        case rel => exact ⟨k + 1, A, c, by omega, by go_num, by rw [HP.out], by rw [HP.out]; exact hR, hE⟩
        case measure => simp [intOf]; omega
    · obtain rfl : k = s.cnt.length := by omega
      go_wp2
      go_ret
      exact ⟨A, c, rfl, hR, hE⟩
theorem rtally_any {B N : Nat} {w : World} {r : Rm} {s : Pl} (h : RefS B N w r s) (kk : Int) :
    Calls Try.prog 55 #[.pointer (some ⟨r.p, 0, none⟩), .int .i64 kk] w fun e w' => e = .returned (.int .i64 (s.pages kk).length) ∧ Ext w w' := by
  have hp := rpages_any h kk
  go_enter Try.func55, Try.ntmps55
  go_wp2_with fail
  refine hp.mono ?_
  rintro e w2 ⟨A, c, rfl, h1, h2⟩
  clear hp
  go_wp2
  go_ret
  exact ⟨rfl, h2⟩
end Go.Proofs.Ytaalhicdeibodaa
