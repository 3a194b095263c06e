/- The walk of RunsOrder. No condition but that what comes in lies in memory. -/
import Derived.Test.YtffapgemacbdjaaRarg
import Derived.Test.YtffapgemacbdjaaRord
namespace Go.Proofs.Ytffapgemacbdjaa
open Go.RowKit Go.Proofs Go.Shelf
set_option linter.unusedVariables false
/-- Two rows of runs of the call's own, apart. -/
structure TwoR (B : Nat) (w : World) (Aa : Option Addr) (ca : Nat) (al : List Rn) (Ab : Option Addr) (cb : Nat) (bl : List Rn) : Prop where
  a : RowRi B w Aa ca al
  b : RowRi B w Ab cb bl
  sep : ∀ q, (Value.slice Aa al.length ca).ownBlock = some q → (Value.slice Ab bl.length cb).ownBlock ≠ some q
theorem TwoR.ext {B : Nat} {w w' : World} {Aa Ab : Option Addr} {ca cb : Nat} {al bl : List Rn} (h : TwoR B w Aa ca al Ab cb bl) (he : Ext w w') : TwoR B w' Aa ca al Ab cb bl := ⟨h.a.ext he, h.b.ext he, h.sep⟩
theorem TwoR.swap {B : Nat} {w : World} {Aa Ab : Option Addr} {ca cb : Nat} {al bl : List Rn} (h : TwoR B w Aa ca al Ab cb bl) : TwoR B w Ab cb bl Aa ca al := ⟨h.b, h.a, fun q h1 h2 => h.sep q h2 h1⟩
theorem TwoR.push {B m : Nat} {w w3 : World} {Aa Ab : Option Addr} {ca cb : Nat} {al bl xs : List Rn} {v' : Value} (h : TwoR B w Aa ca al Ab cb bl) (hm : xs.length = m) (ho3 : w3.ownsRow B 27 2 v' (al.length + m) (al.flatMap rci ++ xs.flatMap rci))
    (hc3 : (∃ A c, Value.slice Aa al.length ca = .slice A al.length c ∧ v' = .slice A (al.length + m) c ∧ w.grownBy w3 (Value.slice Aa al.length ca).ownBlock) ∨ (w.grownBy w3 none ∧ ∀ g, v'.ownBlock = some g → w.heap.size ≤ g)) : ∃ A' c', v' = .slice A' (al.length + m) c' ∧ TwoR B w3 A' c' (al ++ xs) Ab cb bl ∧ Exc (fun q _ => B ≤ q) w w3 := by
  obtain ⟨row, hg, hr⟩ := grown_row h.a hc3
  obtain ⟨oo, hs⟩ := sep_push h.a h.b h.sep hc3
  obtain ⟨A3, c3, rfl⟩ := slice_of_own ho3
  subst hm
  refine ⟨A3, c3, rfl, ⟨?_, oo, ?_⟩, exc_kept hg hr⟩
  · unfold RowRi
    rw [List.length_append, List.flatMap_append]
    exact ho3
  · intro q hq
    rw [List.length_append] at hq
    exact hs q hq
theorem TwoR.other {B g : Nat} {w w' : World} {Aa Ab : Option Addr} {ca cb : Nat} {al bl : List Rn} (h : TwoR B w Aa ca al Ab cb bl) (hg : w.grownBy w' (some g)) (h1 : (Value.slice Aa al.length ca).ownBlock ≠ some g) (h2 : (Value.slice Ab bl.length cb).ownBlock ≠ some g) : TwoR B w' Aa ca al Ab cb bl :=
  ⟨World.ownsRow.kept h.a hg (.inr h1), World.ownsRow.kept h.b hg (.inr h2), h.sep⟩
theorem TwoR.new {B : Nat} {w : World} {Aa Ab : Option Addr} {ca cb : Nat} {al bl : List Rn} (h : TwoR B w Aa ca al Ab cb bl) : (Value.slice Aa al.length ca).ownBlock ≠ some w.heap.size ∧ (Value.slice Ab bl.length cb).ownBlock ≠ some w.heap.size :=
  ⟨fun e => by have := (World.ownsRow.lt h.a _ e).2; omega, fun e => by have := (World.ownsRow.lt h.b _ e).2; omega⟩
def LitR (xs : List Rn) (z : Value) (V : World) : Prop := ∃ g, z = .slice (some ⟨g, 0, none⟩) xs.length xs.length ∧ V.heap[g]? = some (.cells (xs.flatMap rci).toArray 27 (0, 0))
theorem LitR.news {xs : List Rn} {g n c : Nat} {V : World} (h : V.heap[g]? = some (.cells (xs.flatMap rci).toArray 27 (0, 0))) : ∀ j u, (xs.flatMap rci)[j]? = some u → V.cell? ((⟨g, 0, none⟩ : Addr).add j) = some u := by
  intro j u hj
  rw [Addr.add_lit, cell_of_row _ _ _ _ _ _ h, Nat.zero_add]
  simpa using hj
def BoxR (B : Nat) (lo hi : Int) (Aa : Option Addr) (ca : Nat) (al : List Rn) (Ab : Option Addr) (cb : Nat) (bl : List Rn) (z : Value) (V : World) : Prop :=
  ∃ g, z = .pointer (some ⟨g, 0, none⟩) ∧ B ≤ g ∧ V.heap[g]? = some (.cells #[.int .i64 lo, .int .i64 hi] 27 (0, 0)) ∧ (Value.slice Aa al.length ca).ownBlock ≠ some g ∧ (Value.slice Ab bl.length cb).ownBlock ≠ some g
theorem BoxR.ext {B : Nat} {lo hi : Int} {Aa Ab : Option Addr} {ca cb : Nat} {al bl : List Rn} {z : Value} {V V' : World} (h : BoxR B lo hi Aa ca al Ab cb bl z V) (he : Ext V V') : BoxR B lo hi Aa ca al Ab cb bl z V' := by
  obtain ⟨g, h1, h2, h3, h4⟩ := h
  exact ⟨g, h1, h2, he.blk h3, h4⟩
set_option maxRecDepth 100000 in
set_option maxHeartbeats 4000000 in
theorem rorder_any {A B : Option Addr} {c d : Nat} {l : List Rn} {cuts : List Int} {turn : Int} {w : World} (hx0 : RL w A c l) (hy : IL w B d cuts) (ht : -9223372036854775808 ≤ turn ∧ turn ≤ 9223372036854775807) :
    Calls Try.prog 3 #[.slice A l.length c, .slice B cuts.length d, .int .i64 turn] w fun e w' => e = .returned (.bool true) ∧ Ext w w' := by
  obtain ⟨i0, hi, hz0, hz1, hz2⟩ := info_parts infoRi
  obtain ⟨n, hn⟩ : ∃ n, min l.length 200 = n := ⟨_, rfl⟩
  have hx := hx0.take n
  have hln : (l.take n).length = n := by rw [List.length_take]; omega
  have hmn : (if (200 : Int) < (l.length : Int) then 200 else (l.length : Int)) = (n : Int) := by split <;> omega
  have hnl : n ≤ l.length := by omega
  have hn2 : n ≤ 200 := by omega
  have hlc := hx0.le
  have hcap := hx0.cap
  have hnc : n ≤ c := by omega
  clear hn
  generalize l.take n = l' at *
  have HLN := Lib.hid hln
  have hyl := hy.le
  have hyc := hy.cap
  go_enter Try.func3, Try.ntmps3
  clear hln
  go_wp2
  clear hmn
  go_loopw [7, 8, 10] (fun va vb ii wr => ∃ (i : Nat) (Aa : Option Addr) (ca : Nat) (Ab : Option Addr) (cb : Nat) (al bl : List Rn), i ≤ n ∧ ii = .int .i64 i ∧ va = .slice Aa al.length ca ∧ vb = .slice Ab bl.length cb ∧ Hid (al = l'.take i) ∧ al.length ≤ 200 ∧ Hid (bl = bL cuts turn l' i) ∧ bl.length ≤ 400 ∧ TwoR w.heap.size wr Aa ca al Ab cb bl ∧ Ext w wr) (fun _ _ ii _ => n - (intOf ii).toNat)
  case atStart => exact ⟨0, none, 0, none, 0, [], [], Nat.zero_le _, rfl, rfl, rfl, Lib.hid rfl, by decide, Lib.hid rfl, by decide, ⟨World.ownsRow_nil _ _ _ _, World.ownsRow_nil _ _ _ _, fun q h => by cases h⟩, Below.refl _ _⟩
  case round =>
    obtain ⟨i, Aa, ca, Ab, cb, al, bl, hin, rfl, rfl, rfl, HAL, hal, HBL, hbl, htw, hE⟩ := hrel
    by_cases hlt : i < n
    · obtain ⟨x, hxi⟩ : ∃ x, l'[i]? = some x := ⟨_, List.getElem?_eq_getElem (by rw [HLN.out]; exact hlt)⟩
      obtain ⟨b, off, rfl, hic, hcx⟩ := hx.at hxi
      have HAL3 : Hid (al ++ [x] = l'.take (i + 1)) := Lib.hid (by
        obtain ⟨h1, rfl⟩ := List.getElem?_eq_some_iff.1 hxi
        rw [List.take_succ_eq_append_getElem h1, ← HAL.out])
      have hal3 : al.length + 1 ≤ 200 := by
        have := congrArg List.length HAL.out
        rw [List.length_take, HLN.out] at this
        omega
      obtain ⟨xl, xh⟩ := x
      have hws := hE.size
      -- a = append(a, ..)
      go_wp2
      refine wp_region_rg (Exc fun q _ => w.heap.size ≤ q) (rel_exc _) (fun V => TwoR w.heap.size V Aa ca al Ab cb bl) [0, 1, 2, 3, 4, 5, 6, 7, 8, 9, 10, 11, 12, 13, 14] (fun _ => none) (fun j => match j with
        | 12 => some fun _ z V => LitR [⟨xl, xh⟩] z V ∧ TwoR w.heap.size V Aa ca al Ab cb bl
        | 13 => some fun _ z V => ∃ A' c', z = .slice A' (al.length + 1) c' ∧ TwoR w.heap.size V A' c' (al ++ [⟨xl, xh⟩]) Ab cb bl
        | _ => none) (fun _ => false) (by kernel_rfl) (by kernel_rfl) (fun _ _ h he => h.ext he) (htw.ext (Below.refl _ _).drew) (fun W N hW hF0 hN => ?_)
      have hEx : ∀ w', Exc (fun q _ => w.heap.size ≤ q) W w' → Ext w w' := fun w' h => h.to_ext (hE.trans hW) (fun _ _ h => h)
      have hEW : Exc (fun q _ => w.heap.size ≤ q) W W := exc_refl _ _
      have x0 : ∀ w', Exc (fun q _ => w.heap.size ≤ q) W w' → w'.cell? ⟨b, off + i * 2, none⟩ = some (.int .i64 xl) := fun w' h => (hcx w' (hEx w' h)).1
      have x1 : ∀ w', Exc (fun q _ => w.heap.size ≤ q) W w' → w'.cell? ⟨b, off + i * 2 + 1, none⟩ = some (.int .i64 xh) := fun w' h => (hcx w' (hEx w' h)).2
      repeat (first | (apply wpR_one; (case ho => (simp only [List.getElem?_toArray, List.getElem?_cons_succ, List.getElem?_cons_zero]; try exact rfl)); (case hw => rfl); (case hl => rfl); (case hsp => rfl); (case he => rfl); (case hv => (intro w' hw'; (try (have hw2 := Ext.trans hEW hw')); (try (have hw3 := Exc.trans hEW hw')); (try (have hw4 := Exk.trans hEW hw')); (try (have hw5 := Mrk.trans hEW hw')); go_simp; exact rfl)); (case hw0 => (first | exact Below.refl _ _ | exact Exc.of_ext (Below.refl _ _) | exact Exk.of_ext (Below.refl _ _) | exact Mrk.of_ext (Below.refl _ _))); simp only [Act.put, List.setIfInBounds_toArray, List.set_cons_succ, List.set_cons_zero]) | (apply wpR_early; (case ho => (simp only [List.getElem?_toArray, List.getElem?_cons_succ, List.getElem?_cons_zero]; try exact rfl)); (case hw => rfl); (case hl => rfl); (case hsp => rfl); (case he => rfl); (case hv => (intro w' hw'; (try have hw2 := Ext.trans hEW hw'); go_simp; exact rfl)); simp only [Act.put, List.setIfInBounds_toArray, List.set_cons_succ, List.set_cons_zero]) | (apply wpR_pass; (case ho => (simp only [List.getElem?_toArray, List.getElem?_cons_succ, List.getElem?_cons_zero]; try exact rfl)); (case hw => rfl); (case hl => rfl); simp only [Act.put, List.setIfInBounds_toArray, List.set_cons_succ, List.set_cons_zero]))
      refine wpR_late (by ((simp only [List.getElem?_toArray, List.getElem?_cons_succ, List.getElem?_cons_zero]; try exact rfl))) _ rfl rfl (fun V v w' w2 ⟨⟨g, h1, h2⟩, y⟩ he => ⟨⟨g, h1, he.blk h2⟩, y.ext he⟩) (fun V V' h => rfl) (fun w' hw' hK hF => ?_) (fun v hv => ?_)
      · have hF2 : TwoR w.heap.size w' Aa ca al Ab cb bl := hF
        clear x0 x1
        unfold opAt
        go_simp
        exact upAt_value ⟨Exc.of_ext (ext_alloc _ _), ⟨_, rfl, heap_alloc_new _ _⟩, hF2.ext (ext_alloc _ _)⟩
      obtain ⟨gb, rfl⟩ : ∃ g, v = .slice (some ⟨g, 0, none⟩) 1 1 := by
        obtain ⟨_, _, ⟨g, h, _⟩, _⟩ := hv
        exact ⟨g, h⟩
      clear hv
      simp only [Act.put, List.setIfInBounds_toArray, List.set_cons_succ, List.set_cons_zero]
      refine wpR_late (by ((simp only [List.getElem?_toArray, List.getElem?_cons_succ, List.getElem?_cons_zero]; try exact rfl))) _ rfl rfl (fun V v w' w2 ⟨A', c', h1, h2⟩ he => ⟨A', c', h1, h2.ext he⟩) (fun V V' h => rfl) (fun w' hw' hK hF => ?_) (fun v hv => ?_)
      · obtain ⟨⟨g3, e3, hb3⟩, hF2⟩ := hF
        injection e3 with e3
        injection e3 with e3
        injection e3 with e3
        subst e3
        have hX := (hEx w' hw').size
        refine opAt_list rfl #[] (fun Q hQ => ?_)
        refine wpList_append_apart rfl _ _ 24 rfl w.heap.size 27 i0 _ 2 16 Try.underlying24 hi hz0 hz1 hz2 rfl (by decide) _ al.length _ rfl hF2.a ⟨gb, 0, none⟩ 1 1 [.int .i64 xl, .int .i64 xh] rfl rfl (LitR.news (n := 0) (c := 0) hb3) (ronei [⟨xl, xh⟩]) (by decide) (by simp [maxLen]; omega) (by omega) hX ?_
        intro v' w3 ho3 hc3
        obtain ⟨A3, c3, rfl, k1, k2⟩ := hF2.push (xs := [⟨xl, xh⟩]) (m := 1) rfl ho3 hc3
        exact hQ _ _ ⟨k2, A3, c3, rfl, k1⟩
      obtain ⟨A3, c3, rfl⟩ : ∃ A c, v = .slice A (al.length + 1) c := by
        obtain ⟨_, _, A, c, h, _⟩ := hv
        exact ⟨A, c, h⟩
      clear hv
      simp only [Act.put, List.setIfInBounds_toArray, List.set_cons_succ, List.set_cons_zero]
      repeat (first | (apply wpR_one; (case ho => (simp only [List.getElem?_toArray, List.getElem?_cons_succ, List.getElem?_cons_zero]; try exact rfl)); (case hw => rfl); (case hl => rfl); (case hsp => rfl); (case he => rfl); (case hv => (intro w' hw'; (try (have hw2 := Ext.trans hEW hw')); (try (have hw3 := Exc.trans hEW hw')); (try (have hw4 := Exk.trans hEW hw')); (try (have hw5 := Mrk.trans hEW hw')); go_simp; exact rfl)); (case hw0 => (first | exact Below.refl _ _ | exact Exc.of_ext (Below.refl _ _) | exact Exk.of_ext (Below.refl _ _) | exact Mrk.of_ext (Below.refl _ _))); simp only [Act.put, List.setIfInBounds_toArray, List.set_cons_succ, List.set_cons_zero]) | (apply wpR_early; (case ho => (simp only [List.getElem?_toArray, List.getElem?_cons_succ, List.getElem?_cons_zero]; try exact rfl)); (case hw => rfl); (case hl => rfl); (case hsp => rfl); (case he => rfl); (case hv => (intro w' hw'; (try have hw2 := Ext.trans hEW hw'); go_simp; exact rfl)); simp only [Act.put, List.setIfInBounds_toArray, List.set_cons_succ, List.set_cons_zero]) | (apply wpR_pass; (case ho => (simp only [List.getElem?_toArray, List.getElem?_cons_succ, List.getElem?_cons_zero]; try exact rfl)); (case hw => rfl); (case hl => rfl); simp only [Act.put, List.setIfInBounds_toArray, List.set_cons_succ, List.set_cons_zero]))
      apply wpR_nil
      apply hN
      intro w2 hE2 hK hF
      have htw2 : TwoR w.heap.size w2 A3 c3 (al ++ [⟨xl, xh⟩]) Ab cb bl := by
        obtain ⟨A', c', e, h⟩ := hF
        injection e with e1 _ e3
        subst e1 e3
        exact h
      have hEw2 := hEx w2 hE2
      clear hK hN hF hEx x0 x1 hEW hE2 hW hF0 htw hE
      obtain ⟨al2, hal2⟩ : ∃ al2, al ++ [⟨xl, xh⟩] = al2 := ⟨_, rfl⟩
      have hl2 : al2.length = al.length + 1 := by rw [← hal2]; simp
      rw [hal2] at htw2 HAL3
      have hal2n : al2.length ≤ 200 := by omega
      rw [← hl2]
      clear hl2 hal2 hcx hxi
      -- the place
      have hnpos : 0 < n := by omega
      obtain ⟨kq1, kq2⟩ := kk_eq turn (n := n) (i := i) hnpos
      have htb := tmod_bd turn hnpos
      have HBS := Lib.hid (bL_succ cuts turn l' i)
      have HBN := Lib.hid (bL_len cuts turn l' (i + 1))
      obtain ⟨t1, ht1⟩ : ∃ t, turn.tmod n = t := ⟨_, rfl⟩
      rw [ht1] at kq1 htb
      rw [HLN.out] at HBS
      generalize kk turn n i = k at *
      obtain ⟨y, hyk⟩ : ∃ y, l'[k]? = some y := ⟨_, List.getElem?_eq_getElem (by rw [HLN.out]; exact kq2)⟩
      obtain ⟨b2, off2, eA, hkc, hcy⟩ := hx.at hyk
      injection eA with eA
      injection eA with eA1 eA2
      subst eA1 eA2
      have hgd : l'.getD k ⟨0, 0⟩ = y := by rw [List.getD_eq_getElem?_getD, hyk]; rfl
      rw [hgd, ← HBL.out] at HBS
      have hby := hx.bd y (List.mem_of_getElem? hyk)
      clear hgd hyk
      obtain ⟨yl, yh⟩ := y
      obtain ⟨⟨y1, y2⟩, y3, y4⟩ := hby
      simp only at y1 y2 y3 y4 hcy
      go_wp2
      clear kq1 ht1 htb
      -- x := ..
      refine wp_region_rg (Exc fun q _ => w.heap.size ≤ q) (rel_exc _) (fun V => TwoR w.heap.size V A3 c3 al2 Ab cb bl) [0, 1, 2, 3, 4, 5, 6, 7, 8, 9, 10, 11, 12] (fun _ => none) (fun j => match j with
        | 11 => some fun _ z V => BoxR w.heap.size 0 0 A3 c3 al2 Ab cb bl z V ∧ TwoR w.heap.size V A3 c3 al2 Ab cb bl
        | 12 => some fun U _ V => BoxR w.heap.size yl yh A3 c3 al2 Ab cb bl (U 11) V ∧ TwoR w.heap.size V A3 c3 al2 Ab cb bl
        | _ => none) (fun _ => false) (by kernel_rfl) (by kernel_rfl) (fun _ _ h he => h.ext he) (htw2.ext (Below.refl _ _).drew) (fun W N hW hF0 hN => ?_)
      have hEx : ∀ w', Exc (fun q _ => w.heap.size ≤ q) W w' → Ext w w' := fun w' h => h.to_ext (hEw2.trans hW) (fun _ _ h => h)
      have hEW : Exc (fun q _ => w.heap.size ≤ q) W W := exc_refl _ _
      have x0 : ∀ w', Exc (fun q _ => w.heap.size ≤ q) W w' → w'.cell? ⟨b, off + k * 2, none⟩ = some (.int .i64 yl) := fun w' h => (hcy w' (hEx w' h)).1
      have x1 : ∀ w', Exc (fun q _ => w.heap.size ≤ q) W w' → w'.cell? ⟨b, off + k * 2 + 1, none⟩ = some (.int .i64 yh) := fun w' h => (hcy w' (hEx w' h)).2
      repeat (first | (apply wpR_one; (case ho => (simp only [List.getElem?_toArray, List.getElem?_cons_succ, List.getElem?_cons_zero]; try exact rfl)); (case hw => rfl); (case hl => rfl); (case hsp => rfl); (case he => rfl); (case hv => (intro w' hw'; (try (have hw2 := Ext.trans hEW hw')); (try (have hw3 := Exc.trans hEW hw')); (try (have hw4 := Exk.trans hEW hw')); (try (have hw5 := Mrk.trans hEW hw')); go_simp; exact rfl)); (case hw0 => (first | exact Below.refl _ _ | exact Exc.of_ext (Below.refl _ _) | exact Exk.of_ext (Below.refl _ _) | exact Mrk.of_ext (Below.refl _ _))); simp only [Act.put, List.setIfInBounds_toArray, List.set_cons_succ, List.set_cons_zero]) | (apply wpR_early; (case ho => (simp only [List.getElem?_toArray, List.getElem?_cons_succ, List.getElem?_cons_zero]; try exact rfl)); (case hw => rfl); (case hl => rfl); (case hsp => rfl); (case he => rfl); (case hv => (intro w' hw'; (try have hw2 := Ext.trans hEW hw'); go_simp; exact rfl)); simp only [Act.put, List.setIfInBounds_toArray, List.set_cons_succ, List.set_cons_zero]) | (apply wpR_pass; (case ho => (simp only [List.getElem?_toArray, List.getElem?_cons_succ, List.getElem?_cons_zero]; try exact rfl)); (case hw => rfl); (case hl => rfl); simp only [Act.put, List.setIfInBounds_toArray, List.set_cons_succ, List.set_cons_zero]))
      refine wpR_late (by ((simp only [List.getElem?_toArray, List.getElem?_cons_succ, List.getElem?_cons_zero]; try exact rfl))) _ rfl rfl (fun V v w' w2 ⟨h1, y⟩ he => ⟨h1.ext he, y.ext he⟩) (fun V V' h => rfl) (fun w' hw' hK hF => ?_) (fun v hv => ?_)
      · have hF2 : TwoR w.heap.size w' A3 c3 al2 Ab cb bl := hF
        have hX := (hEx w' hw').size
        clear x0 x1
        unfold opAt
        go_simp
        exact upAt_value ⟨Exc.of_ext (ext_alloc _ _), ⟨_, rfl, hX, heap_alloc_new _ _, hF2.new⟩, hF2.ext (ext_alloc _ _)⟩
      obtain ⟨gx, rfl⟩ : ∃ g, v = .pointer (some ⟨g, 0, none⟩) := by
        obtain ⟨_, _, ⟨g, h, _⟩, _⟩ := hv
        exact ⟨g, h⟩
      clear hv
      simp only [Act.put, List.setIfInBounds_toArray, List.set_cons_succ, List.set_cons_zero]
      refine wpR_late (by ((simp only [List.getElem?_toArray, List.getElem?_cons_succ, List.getElem?_cons_zero]; try exact rfl))) _ rfl rfl (fun V v w' w2 ⟨h1, y⟩ he => ⟨h1.ext he, y.ext he⟩) (fun V V' h => by simp only [h 11 (by kernel_rfl)]) (fun w' hw' hK hF => ?_) (fun v hv => ?_)
      · obtain ⟨⟨g3, e3, hgB, hb3, hs1, hs2⟩, hF2⟩ := hF
        obtain rfl : gx = g3 := by
          injection e3 with e3
          injection e3 with e3
          injection e3 with e3
        refine opAt_list rfl #[] (fun Q hQ => ?_)
        refine wpList_store_box rfl 27 _ _ rfl gx _ rfl rfl 27 _ hb3 (by kernel_rfl) rfl (by simp [Value.oneCell']) (fun w3 hb hg => ?_)
        exact hQ _ _ ⟨Exc.of_only hg (fun _ _ => hgB), ⟨gx, rfl, hgB, hb, hs1, hs2⟩, hF2.other hg hs1 hs2⟩
      clear hv
      simp only [Act.put, List.setIfInBounds_toArray, List.set_cons_succ, List.set_cons_zero]
      apply wpR_nil
      apply hN
      intro w3 hE3 hK hF
      obtain ⟨⟨g3, e3, hgB, hb3, hs1, hs2⟩, htw3⟩ := hF
      obtain rfl : gx = g3 := by
        have e4 : Value.pointer (some ⟨gx, 0, none⟩) = .pointer (some ⟨g3, 0, none⟩) := e3
        injection e4 with e4
        injection e4 with e4
        injection e4 with e4
      have hEw3 := hEx w3 hE3
      clear hK hN hEx x0 x1 hEW hE3 hW hF0 htw2 hEw2 e3 hs1 hs2
      -- is it cut?
      have q0 : ∀ W, Ext w3 W → W.cell? ⟨gx, 0, none⟩ = some (.int .i64 yl) := fun W h => cell_of_row _ _ _ _ _ _ (h.blk hb3)
      have q1 : ∀ W, Ext w3 W → W.cell? ⟨gx, 1, none⟩ = some (.int .i64 yh) := fun W h => cell_of_row _ _ _ _ _ _ (h.blk hb3)
      by_cases hkcu : k < cuts.length
      · obtain ⟨z, hz⟩ : ∃ z, cuts[k]? = some z := ⟨_, List.getElem?_eq_getElem hkcu⟩
        have hbz := hy.bd z (List.mem_of_getElem? hz)
        obtain ⟨b3, off3, rfl, hcz⟩ := hy.rd (by omega)
        have hkd : k < d := by omega
        have z0 : ∀ W, Ext w3 W → W.cell? ⟨b3, off3 + k, none⟩ = some (.int .i64 z) := fun W h => (hEw3.trans h).cell (hcz k z hz)
        by_cases hz1' : yl ≤ z
        · by_cases hz2' : z < yh
          · have HP : Hid (bl ++ [⟨z + 1, yh⟩, ⟨yl, z⟩] = bL cuts turn l' (i + 1)) := Lib.hid (by
              rw [HBS.out]
              unfold piece
              rw [hz]
              simp only
              rw [if_pos ⟨hz1', hz2'⟩])
            have hzc0 := hcz k z hz
            clear HBS hz
            go_wp2
            refine wp_region_rg Ext rel_ext (fun _ => True) [0, 1, 2, 3, 4, 5, 6, 7, 8, 9, 10, 11, 12, 13, 14, 15, 16, 17, 18, 19, 20, 21] (fun _ => none) (fun _ => none) (fun _ => false) (by kernel_rfl) (by kernel_rfl) (fun _ _ _ _ => trivial) trivial (fun W N hW _ hN => ?_)
            have hEW := hW
            repeat (first | (apply wpR_one; (case ho => (simp only [List.getElem?_toArray, List.getElem?_cons_succ, List.getElem?_cons_zero]; try exact rfl)); (case hw => rfl); (case hl => rfl); (case hsp => rfl); (case he => rfl); (case hv => (intro w' hw'; (try (have hw2 := Ext.trans hEW hw')); (try (have hw3 := Exc.trans hEW hw')); (try (have hw4 := Exk.trans hEW hw')); (try (have hw5 := Mrk.trans hEW hw')); go_simp; exact rfl)); (case hw0 => (first | exact Below.refl _ _ | exact Exc.of_ext (Below.refl _ _) | exact Exk.of_ext (Below.refl _ _) | exact Mrk.of_ext (Below.refl _ _))); simp only [Act.put, List.setIfInBounds_toArray, List.set_cons_succ, List.set_cons_zero]) | (apply wpR_early; (case ho => (simp only [List.getElem?_toArray, List.getElem?_cons_succ, List.getElem?_cons_zero]; try exact rfl)); (case hw => rfl); (case hl => rfl); (case hsp => rfl); (case he => rfl); (case hv => (intro w' hw'; (try have hw2 := Ext.trans hEW hw'); go_simp; exact rfl)); simp only [Act.put, List.setIfInBounds_toArray, List.set_cons_succ, List.set_cons_zero]) | (apply wpR_pass; (case ho => (simp only [List.getElem?_toArray, List.getElem?_cons_succ, List.getElem?_cons_zero]; try exact rfl)); (case hw => rfl); (case hl => rfl); simp only [Act.put, List.setIfInBounds_toArray, List.set_cons_succ, List.set_cons_zero]))
            apply wpR_nil
            apply hN
            intro w4 hE4' hK _
            have hE4 := hEW.trans hE4'
            have htw4 := htw3.ext hE4
            have hb4 := hE4.blk hb3
            have hEw4 := hEw3.trans hE4
            clear hK hN q0 q1 hW hEW hE4' htw3 hb3
            clear z0
            have hzc := hzc0
            go_wp2
            refine wp_region_rg (Exc fun q _ => w.heap.size ≤ q) (rel_exc _) (fun V => TwoR w.heap.size V A3 c3 al2 Ab cb bl) [0, 1, 2, 3, 4, 5, 6, 7, 8, 9, 10, 11, 12, 13, 14, 15, 16, 17, 18] (fun _ => none) (fun j => match j with
              | 16 => some fun _ u V => LitR [⟨z + 1, yh⟩, ⟨yl, z⟩] u V ∧ TwoR w.heap.size V A3 c3 al2 Ab cb bl
              | 17 => some fun _ u V => ∃ A' c', u = .slice A' (bl.length + 2) c' ∧ TwoR w.heap.size V A' c' (bl ++ [⟨z + 1, yh⟩, ⟨yl, z⟩]) A3 c3 al2
              | _ => none) (fun j => match j with | 7 => true | 10 => true | _ => false) (by kernel_rfl) (by kernel_rfl) (fun _ _ h he => h.ext he) (htw4.ext (Below.refl _ _).drew) (fun W N hW hF0 hN => ?_)
            have hEx : ∀ w', Exc (fun q _ => w.heap.size ≤ q) W w' → Ext w w' := fun w' h => h.to_ext (hEw4.trans hW) (fun _ _ h => h)
            have hEW : Exc (fun q _ => w.heap.size ≤ q) W W := exc_refl _ _
            have q0 : ∀ w', Ext W w' → w'.cell? ⟨gx, 0, none⟩ = some (.int .i64 yl) := fun w' h => cell_of_row _ _ _ _ _ _ ((hW.trans h).blk hb4)
            have q1 : ∀ w', Ext W w' → w'.cell? ⟨gx, 1, none⟩ = some (.int .i64 yh) := fun w' h => cell_of_row _ _ _ _ _ _ ((hW.trans h).blk hb4)
            have hwz : IntKind.i64.wrap (z + 1) = z + 1 := by rw [IntKind.wrap_i64]; omega
            have z1 : ∀ w', Exc (fun q _ => w.heap.size ≤ q) W w' → w'.cell? ⟨b3, off3 + k, none⟩ = some (.int .i64 z) := fun w' h => (hEx w' h).cell hzc
            repeat (first | (apply wpR_one; (case ho => (simp only [List.getElem?_toArray, List.getElem?_cons_succ, List.getElem?_cons_zero]; try exact rfl)); (case hw => rfl); (case hl => rfl); (case hsp => rfl); (case he => rfl); (case hv => (intro w' hw'; (try (have hw2 := Ext.trans hEW hw')); (try (have hw3 := Exc.trans hEW hw')); (try (have hw4 := Exk.trans hEW hw')); (try (have hw5 := Mrk.trans hEW hw')); go_simp; exact rfl)); (case hw0 => (first | exact Below.refl _ _ | exact Exc.of_ext (Below.refl _ _) | exact Exk.of_ext (Below.refl _ _) | exact Mrk.of_ext (Below.refl _ _))); simp only [Act.put, List.setIfInBounds_toArray, List.set_cons_succ, List.set_cons_zero]) | (apply wpR_early; (case ho => (simp only [List.getElem?_toArray, List.getElem?_cons_succ, List.getElem?_cons_zero]; try exact rfl)); (case hw => rfl); (case hl => rfl); (case hsp => rfl); (case he => rfl); (case hv => (intro w' hw'; (try have hw2 := Ext.trans hEW hw'); go_simp; exact rfl)); simp only [Act.put, List.setIfInBounds_toArray, List.set_cons_succ, List.set_cons_zero]) | (apply wpR_pass; (case ho => (simp only [List.getElem?_toArray, List.getElem?_cons_succ, List.getElem?_cons_zero]; try exact rfl)); (case hw => rfl); (case hl => rfl); simp only [Act.put, List.setIfInBounds_toArray, List.set_cons_succ, List.set_cons_zero]))
            refine wpR_late (by ((simp only [List.getElem?_toArray, List.getElem?_cons_succ, List.getElem?_cons_zero]; try exact rfl))) _ rfl rfl (fun V v w' w2 ⟨⟨g, h1, h2⟩, y⟩ he => ⟨⟨g, h1, he.blk h2⟩, y.ext he⟩) (fun V V' h => rfl) (fun w' hw' hK hF => ?_) (fun v hv => ?_)
            · have hF2 : TwoR w.heap.size w' A3 c3 al2 Ab cb bl := hF
              clear q0 q1 z1
              unfold opAt
              go_simp
              exact upAt_value ⟨Exc.of_ext (ext_alloc _ _), ⟨_, rfl, heap_alloc_new _ _⟩, hF2.ext (ext_alloc _ _)⟩
            obtain ⟨gb, rfl⟩ : ∃ g, v = .slice (some ⟨g, 0, none⟩) 2 2 := by
              obtain ⟨_, _, ⟨g, h, _⟩, _⟩ := hv
              exact ⟨g, h⟩
            clear hv
            simp only [Act.put, List.setIfInBounds_toArray, List.set_cons_succ, List.set_cons_zero]
            refine wpR_late (by ((simp only [List.getElem?_toArray, List.getElem?_cons_succ, List.getElem?_cons_zero]; try exact rfl))) _ rfl rfl (fun V v w' w2 ⟨A', c', h1, h2⟩ he => ⟨A', c', h1, h2.ext he⟩) (fun V V' h => rfl) (fun w' hw' hK hF => ?_) (fun v hv => ?_)
            · obtain ⟨⟨g3, e3, hb3⟩, hF2⟩ := hF
              injection e3 with e3
              injection e3 with e3
              injection e3 with e3
              subst e3
              have hX := (hEx w' hw').size
              refine opAt_list rfl #[] (fun Q hQ => ?_)
              refine wpList_append_apart rfl _ _ 24 rfl w.heap.size 27 i0 _ 2 16 Try.underlying24 hi hz0 hz1 hz2 rfl (by decide) _ bl.length _ rfl hF2.b ⟨gb, 0, none⟩ 2 2 [.int .i64 (z + 1), .int .i64 yh, .int .i64 yl, .int .i64 z] rfl rfl (LitR.news (n := 0) (c := 0) hb3) (ronei [⟨z + 1, yh⟩, ⟨yl, z⟩]) (by decide) (by simp [maxLen]; omega) (by omega) hX ?_
              intro v' w5 ho3 hc3
              obtain ⟨A5, c5, rfl, k1, k2⟩ := hF2.swap.push (xs := [⟨z + 1, yh⟩, ⟨yl, z⟩]) (m := 2) rfl ho3 hc3
              exact hQ _ _ ⟨k2, A5, c5, rfl, k1⟩
            obtain ⟨A5, c5, rfl⟩ : ∃ A c, v = .slice A (bl.length + 2) c := by
              obtain ⟨_, _, A, c, h, _⟩ := hv
              exact ⟨A, c, h⟩
            clear hv
            simp only [Act.put, List.setIfInBounds_toArray, List.set_cons_succ, List.set_cons_zero]
            repeat (first | (apply wpR_one; (case ho => (simp only [List.getElem?_toArray, List.getElem?_cons_succ, List.getElem?_cons_zero]; try exact rfl)); (case hw => rfl); (case hl => rfl); (case hsp => rfl); (case he => rfl); (case hv => (intro w' hw'; (try (have hw2 := Ext.trans hEW hw')); (try (have hw3 := Exc.trans hEW hw')); (try (have hw4 := Exk.trans hEW hw')); (try (have hw5 := Mrk.trans hEW hw')); go_simp; exact rfl)); (case hw0 => (first | exact Below.refl _ _ | exact Exc.of_ext (Below.refl _ _) | exact Exk.of_ext (Below.refl _ _) | exact Mrk.of_ext (Below.refl _ _))); simp only [Act.put, List.setIfInBounds_toArray, List.set_cons_succ, List.set_cons_zero]) | (apply wpR_early; (case ho => (simp only [List.getElem?_toArray, List.getElem?_cons_succ, List.getElem?_cons_zero]; try exact rfl)); (case hw => rfl); (case hl => rfl); (case hsp => rfl); (case he => rfl); (case hv => (intro w' hw'; (try have hw2 := Ext.trans hEW hw'); go_simp; exact rfl)); simp only [Act.put, List.setIfInBounds_toArray, List.set_cons_succ, List.set_cons_zero]) | (apply wpR_pass; (case ho => (simp only [List.getElem?_toArray, List.getElem?_cons_succ, List.getElem?_cons_zero]; try exact rfl)); (case hw => rfl); (case hl => rfl); simp only [Act.put, List.setIfInBounds_toArray, List.set_cons_succ, List.set_cons_zero]))
            apply wpR_nil
            apply hN
            intro w5 hE5 hK hF
            have k1 : TwoR w.heap.size w5 A5 c5 (bl ++ [⟨z + 1, yh⟩, ⟨yl, z⟩]) A3 c3 al2 := by
              obtain ⟨A', c', e, h⟩ := hF
              injection e with e1 _ e3
              subst e1 e3
              exact h
            have hEw5 := hEx w5 hE5
            clear hK hN hF hEx q0 q1 z1 hEW hE5 hW hF0
            have hbn : (bl ++ ([⟨z + 1, yh⟩, ⟨yl, z⟩] : List Rn)).length ≤ 400 := by rw [HP.out]; have := HBN.out; omega
            go_wp2
            go_roundw
            case rel => exact ⟨i + 1, A3, c3, A5, c5, al2, bl ++ [⟨z + 1, yh⟩, ⟨yl, z⟩], by omega, by go_num, rfl, by simp, HAL3, hal2n, HP, hbn, k1.swap, hEw5⟩
            case measure => simp [intOf]; omega
          · have HP : Hid (bl ++ [⟨yl, yh⟩] = bL cuts turn l' (i + 1)) := Lib.hid (by
              rw [HBS.out]
              unfold piece
              rw [hz]
              simp only
              rw [if_neg (fun h => hz2' h.2)])
            clear HBS hz
            go_wp2
            refine wp_region_rg Ext rel_ext (fun _ => True) [0, 1, 2, 3, 4, 5, 6, 7, 8, 9, 10, 11, 12, 13, 14, 15, 16, 17, 18, 19, 20, 21] (fun _ => none) (fun _ => none) (fun _ => false) (by kernel_rfl) (by kernel_rfl) (fun _ _ _ _ => trivial) trivial (fun W N hW _ hN => ?_)
            have hEW := hW
            repeat (first | (apply wpR_one; (case ho => (simp only [List.getElem?_toArray, List.getElem?_cons_succ, List.getElem?_cons_zero]; try exact rfl)); (case hw => rfl); (case hl => rfl); (case hsp => rfl); (case he => rfl); (case hv => (intro w' hw'; (try (have hw2 := Ext.trans hEW hw')); (try (have hw3 := Exc.trans hEW hw')); (try (have hw4 := Exk.trans hEW hw')); (try (have hw5 := Mrk.trans hEW hw')); go_simp; exact rfl)); (case hw0 => (first | exact Below.refl _ _ | exact Exc.of_ext (Below.refl _ _) | exact Exk.of_ext (Below.refl _ _) | exact Mrk.of_ext (Below.refl _ _))); simp only [Act.put, List.setIfInBounds_toArray, List.set_cons_succ, List.set_cons_zero]) | (apply wpR_early; (case ho => (simp only [List.getElem?_toArray, List.getElem?_cons_succ, List.getElem?_cons_zero]; try exact rfl)); (case hw => rfl); (case hl => rfl); (case hsp => rfl); (case he => rfl); (case hv => (intro w' hw'; (try have hw2 := Ext.trans hEW hw'); go_simp; exact rfl)); simp only [Act.put, List.setIfInBounds_toArray, List.set_cons_succ, List.set_cons_zero]) | (apply wpR_pass; (case ho => (simp only [List.getElem?_toArray, List.getElem?_cons_succ, List.getElem?_cons_zero]; try exact rfl)); (case hw => rfl); (case hl => rfl); simp only [Act.put, List.setIfInBounds_toArray, List.set_cons_succ, List.set_cons_zero]))
            apply wpR_nil
            apply hN
            intro w4 hE4' hK _
            have hE4 := hEW.trans hE4'
            have htw4 := htw3.ext hE4
            have hb4 := hE4.blk hb3
            have hEw4 := hEw3.trans hE4
            clear hK hN q0 q1 hW hEW hE4' htw3 hb3
            clear z0
            have r0 := cell_of_row w4 gx 0 _ _ _ hb4
            have r1 := cell_of_row w4 gx 1 _ _ _ hb4
            simp only [List.getElem?_toArray, List.getElem?_cons_zero, List.getElem?_cons_succ] at r0 r1
            have hX4 := hEw4.size
            go_wp2_with (at_builtin; refine wpList_append_apart rfl _ _ 24 rfl w.heap.size 27 i0 _ 2 16 Try.underlying24 hi hz0 hz1 hz2 rfl (by decide) _ bl.length _ rfl (own_ext htw4.b (ext_alloc w4 _)) ⟨w4.heap.size, 0, none⟩ 1 1 [.int .i64 yl, .int .i64 yh] rfl rfl (news_row w4 _ _ _) (ronei [⟨yl, yh⟩]) (by decide) (by simp [maxLen]; omega) (by omega) (by simp; omega) ?_; intro v' w5 ho3' hc3')
            obtain ⟨A5, c5, rfl, k1, k2⟩ := ((htw4.ext (ext_alloc w4 _)).swap).push (xs := [⟨yl, yh⟩]) (m := 1) rfl ho3' hc3'
            have hEw5 := k2.to_ext (hEw4.trans (ext_alloc w4 _)) (fun _ _ h => h)
            have hbn : (bl ++ ([⟨yl, yh⟩] : List Rn)).length ≤ 400 := by rw [HP.out]; have := HBN.out; omega
            clear hc3' ho3'
            go_wp2
            go_roundw
            case rel => exact ⟨i + 1, A3, c3, A5, c5, al2, bl ++ [⟨yl, yh⟩], by omega, by go_num, rfl, by simp, HAL3, hal2n, HP, hbn, k1.swap, hEw5⟩
            case measure => simp [intOf]; omega
        · have HP : Hid (bl ++ [⟨yl, yh⟩] = bL cuts turn l' (i + 1)) := Lib.hid (by
            rw [HBS.out]
            unfold piece
            rw [hz]
            simp only
            rw [if_neg (fun h => hz1' h.1)])
          have hdz : decide (yl ≤ z) = false := decide_eq_false hz1'
          clear HBS hz
          go_wp2
          refine wp_region_rg Ext rel_ext (fun _ => True) [0, 1, 2, 3, 4, 5, 6, 7, 8, 9, 10, 11, 12, 13, 14, 15, 16, 17, 18, 19, 20, 21] (fun _ => none) (fun _ => none) (fun _ => false) (by kernel_rfl) (by kernel_rfl) (fun _ _ _ _ => trivial) trivial (fun W N hW _ hN => ?_)
          have hEW := hW
          repeat (first | (apply wpR_one; (case ho => (simp only [List.getElem?_toArray, List.getElem?_cons_succ, List.getElem?_cons_zero]; try exact rfl)); (case hw => rfl); (case hl => rfl); (case hsp => rfl); (case he => rfl); (case hv => (intro w' hw'; (try (have hw2 := Ext.trans hEW hw')); (try (have hw3 := Exc.trans hEW hw')); (try (have hw4 := Exk.trans hEW hw')); (try (have hw5 := Mrk.trans hEW hw')); go_simp; exact rfl)); (case hw0 => (first | exact Below.refl _ _ | exact Exc.of_ext (Below.refl _ _) | exact Exk.of_ext (Below.refl _ _) | exact Mrk.of_ext (Below.refl _ _))); simp only [Act.put, List.setIfInBounds_toArray, List.set_cons_succ, List.set_cons_zero]) | (apply wpR_early; (case ho => (simp only [List.getElem?_toArray, List.getElem?_cons_succ, List.getElem?_cons_zero]; try exact rfl)); (case hw => rfl); (case hl => rfl); (case hsp => rfl); (case he => rfl); (case hv => (intro w' hw'; (try have hw2 := Ext.trans hEW hw'); go_simp; exact rfl)); simp only [Act.put, List.setIfInBounds_toArray, List.set_cons_succ, List.set_cons_zero]) | (apply wpR_pass; (case ho => (simp only [List.getElem?_toArray, List.getElem?_cons_succ, List.getElem?_cons_zero]; try exact rfl)); (case hw => rfl); (case hl => rfl); simp only [Act.put, List.setIfInBounds_toArray, List.set_cons_succ, List.set_cons_zero]))
          apply wpR_nil
          apply hN
          intro w4 hE4' hK _
          have hE4 := hEW.trans hE4'
          have htw4 := htw3.ext hE4
          have hb4 := hE4.blk hb3
          have hEw4 := hEw3.trans hE4
          clear hK hN q0 q1 hW hEW hE4' htw3 hb3
          clear z0
          have r0 := cell_of_row w4 gx 0 _ _ _ hb4
          have r1 := cell_of_row w4 gx 1 _ _ _ hb4
          simp only [List.getElem?_toArray, List.getElem?_cons_zero, List.getElem?_cons_succ] at r0 r1
          have hX4 := hEw4.size
          go_wp2_with (at_builtin; refine wpList_append_apart rfl _ _ 24 rfl w.heap.size 27 i0 _ 2 16 Try.underlying24 hi hz0 hz1 hz2 rfl (by decide) _ bl.length _ rfl (own_ext htw4.b (ext_alloc w4 _)) ⟨w4.heap.size, 0, none⟩ 1 1 [.int .i64 yl, .int .i64 yh] rfl rfl (news_row w4 _ _ _) (ronei [⟨yl, yh⟩]) (by decide) (by simp [maxLen]; omega) (by omega) (by simp; omega) ?_; intro v' w5 ho3' hc3')
          obtain ⟨A5, c5, rfl, k1, k2⟩ := ((htw4.ext (ext_alloc w4 _)).swap).push (xs := [⟨yl, yh⟩]) (m := 1) rfl ho3' hc3'
          have hEw5 := k2.to_ext (hEw4.trans (ext_alloc w4 _)) (fun _ _ h => h)
          have hbn : (bl ++ ([⟨yl, yh⟩] : List Rn)).length ≤ 400 := by rw [HP.out]; have := HBN.out; omega
          clear hc3' ho3'
          go_wp2
          go_roundw
          case rel => exact ⟨i + 1, A3, c3, A5, c5, al2, bl ++ [⟨yl, yh⟩], by omega, by go_num, rfl, by simp, HAL3, hal2n, HP, hbn, k1.swap, hEw5⟩
          case measure => simp [intOf]; omega
      · have HP : Hid (bl ++ [⟨yl, yh⟩] = bL cuts turn l' (i + 1)) := Lib.hid (by
          rw [HBS.out]
          unfold piece
          rw [List.getElem?_eq_none (by omega)])
        clear HBS
        go_wp2
        refine wp_region_rg Ext rel_ext (fun _ => True) [0, 1, 2, 3, 4, 5, 6, 7, 8, 9, 10, 11, 12, 13, 14, 15, 16, 17, 18, 19, 20, 21] (fun _ => none) (fun _ => none) (fun _ => false) (by kernel_rfl) (by kernel_rfl) (fun _ _ _ _ => trivial) trivial (fun W N hW _ hN => ?_)
        have hEW := hW
        repeat (first | (apply wpR_one; (case ho => (simp only [List.getElem?_toArray, List.getElem?_cons_succ, List.getElem?_cons_zero]; try exact rfl)); (case hw => rfl); (case hl => rfl); (case hsp => rfl); (case he => rfl); (case hv => (intro w' hw'; (try (have hw2 := Ext.trans hEW hw')); (try (have hw3 := Exc.trans hEW hw')); (try (have hw4 := Exk.trans hEW hw')); (try (have hw5 := Mrk.trans hEW hw')); go_simp; exact rfl)); (case hw0 => (first | exact Below.refl _ _ | exact Exc.of_ext (Below.refl _ _) | exact Exk.of_ext (Below.refl _ _) | exact Mrk.of_ext (Below.refl _ _))); simp only [Act.put, List.setIfInBounds_toArray, List.set_cons_succ, List.set_cons_zero]) | (apply wpR_early; (case ho => (simp only [List.getElem?_toArray, List.getElem?_cons_succ, List.getElem?_cons_zero]; try exact rfl)); (case hw => rfl); (case hl => rfl); (case hsp => rfl); (case he => rfl); (case hv => (intro w' hw'; (try have hw2 := Ext.trans hEW hw'); go_simp; exact rfl)); simp only [Act.put, List.setIfInBounds_toArray, List.set_cons_succ, List.set_cons_zero]) | (apply wpR_pass; (case ho => (simp only [List.getElem?_toArray, List.getElem?_cons_succ, List.getElem?_cons_zero]; try exact rfl)); (case hw => rfl); (case hl => rfl); simp only [Act.put, List.setIfInBounds_toArray, List.set_cons_succ, List.set_cons_zero]))
        apply wpR_nil
        apply hN
        intro w4 hE4' hK _
        have hE4 := hEW.trans hE4'
        have htw4 := htw3.ext hE4
        have hb4 := hE4.blk hb3
        have hEw4 := hEw3.trans hE4
        clear hK hN q0 q1 hW hEW hE4' htw3 hb3
        have r0 := cell_of_row w4 gx 0 _ _ _ hb4
        have r1 := cell_of_row w4 gx 1 _ _ _ hb4
        simp only [List.getElem?_toArray, List.getElem?_cons_zero, List.getElem?_cons_succ] at r0 r1
        have hX4 := hEw4.size
        go_wp2_with (at_builtin; refine wpList_append_apart rfl _ _ 24 rfl w.heap.size 27 i0 _ 2 16 Try.underlying24 hi hz0 hz1 hz2 rfl (by decide) _ bl.length _ rfl (own_ext htw4.b (ext_alloc w4 _)) ⟨w4.heap.size, 0, none⟩ 1 1 [.int .i64 yl, .int .i64 yh] rfl rfl (news_row w4 _ _ _) (ronei [⟨yl, yh⟩]) (by decide) (by simp [maxLen]; omega) (by omega) (by simp; omega) ?_; intro v' w5 ho3' hc3')
        obtain ⟨A5, c5, rfl, k1, k2⟩ := ((htw4.ext (ext_alloc w4 _)).swap).push (xs := [⟨yl, yh⟩]) (m := 1) rfl ho3' hc3'
        have hEw5 := k2.to_ext (hEw4.trans (ext_alloc w4 _)) (fun _ _ h => h)
        have hbn : (bl ++ ([⟨yl, yh⟩] : List Rn)).length ≤ 400 := by rw [HP.out]; have := HBN.out; omega
        clear hc3' ho3'
        go_wp2
        go_roundw
        case rel => exact ⟨i + 1, A3, c3, A5, c5, al2, bl ++ [⟨yl, yh⟩], by omega, by go_num, rfl, by simp, HAL3, hal2n, HP, hbn, k1.swap, hEw5⟩
        case measure => simp [intOf]; omega
    · obtain rfl : i = n := by omega
      have hal' : al = l' := by
        rw [HAL.out, List.take_of_length_le (by rw [HLN.out]; exact Nat.le_refl _)]
      have hlaw : List.foldl addL [] bl = List.foldl addL [] al := by
        rw [HBL.out, hal']
        have := order_law cuts turn l'
        rwa [HLN.out] at this
      have hbda : ∀ r ∈ al, Bdi r := fun r hr => hx.bd r (by rw [← hal']; exact hr)
      have hbdb : ∀ r ∈ bl, Bdi r := by
        rw [HBL.out]
        exact bL_mem (Q := Bdi) hx.bd (fun x c hq h1 h2 => by
          obtain ⟨⟨a1, a2⟩, a3, a4⟩ := hq
          exact ⟨⟨⟨by simp only; omega, by simp only; omega⟩, a3, a4⟩, ⟨a1, a2⟩, by simp only; omega, by simp only; omega⟩) _ (by rw [HLN.out]; exact Nat.le_refl _)
      have hany : List.foldl addL [] al = [] → anyR l' = false := fun h => by
        obtain ⟨_, h2⟩ := foldl_addL al [] trivial
        rw [h] at h2
        unfold anyR
        rw [List.any_eq_false]
        intro r hr hle
        have hle2 : r.lo ≤ r.hi := by simpa using hle
        exact mem_nil ((h2 r.lo).2 (.inr ⟨r, by rw [hal']; exact hr, Int.le_refl _, hle2⟩))
      have hLl := foldl_addL_len al []
      simp only [List.length_nil, Nat.zero_add] at hLl
      have HO1 := fun W => @of_anyi w.heap.size ca Aa al W
      have HO2 := fun W => @of_anyi w.heap.size cb Ab bl W
      rw [hlaw] at HO2
      obtain ⟨L, hL⟩ : ∃ L, List.foldl addL [] al = L := ⟨_, rfl⟩
      rw [hL] at HO1 HO2 hany hLl
      have HANY := Lib.hid hany
      have hL6 : L.length ≤ 1000000 := by omega
      have HBA := Lib.hid hbda
      have HBB := Lib.hid hbdb
      clear hL hany hlaw hal' HAL HBL hbda hbdb
      go_wp2_with fail
      refine (HO1 _ htw.a (by omega) HBA.out).mono ?_
      rintro e w1 ⟨p1, A1, c1, rfl, hp1, hS1, hE1⟩
      go_wp2_with fail
      refine (HO2 _ (htw.b.ext hE1) (by omega) HBB.out).mono ?_
      rintro e w2 ⟨p2, A2, c2, rfl, hp2, hS2, hE2⟩
      replace hS1 := hS1.ext hE2
      replace hE := (hE.trans hE1).trans hE2
      clear HO1 HO2 htw hE1 hE2
      have HT := same_anyi hS1 hS2 hL6 hL6
      rw [decide_eq_true rfl] at HT
      go_wp2_with fail
      refine HT.mono ?_
      rintro e w3 ⟨rfl, hE3⟩
      have HT := same_anyi (hS2.ext hE3) (hS1.ext hE3) hL6 hL6
      rw [decide_eq_true rfl] at HT
      go_wp2_with fail
      refine HT.mono ?_
      rintro e w4 ⟨rfl, hE4⟩
      replace hS1 := (hS1.ext hE3).ext hE4
      replace hS2 := (hS2.ext hE3).ext hE4
      replace hE := (hE.trans hE3).trans hE4
      clear HT hE3 hE4
      have HT1 := len_anyi hS1 hL6
      have HT2 := fun W (h : Ext w4 W) => len_anyi (hS2.ext h) hL6
      generalize List.foldl withZ 0 L = z at HT1 HT2
      go_wp2_with fail
      refine HT1.mono ?_
      rintro e w5 ⟨rfl, hE5⟩
      go_wp2_with fail
      refine (HT2 _ hE5).mono ?_
      rintro e w6 ⟨rfl, hE6⟩
      replace hS1 := (hS1.ext hE5).ext hE6
      replace hS2 := (hS2.ext hE5).ext hE6
      replace hE := (hE.trans hE5).trans hE6
      clear HT1 HT2 hE5 hE6
      go_wp2_with fail
      refine (runs_anyi hS1 hL6).mono ?_
      rintro e w7 ⟨A7, c7, rfl, hr7, hE7⟩
      go_wp2_with fail
      refine (runs_anyi (hS2.ext hE7) hL6).mono ?_
      rintro e w8 ⟨A8, c8, rfl, hr8, hE8⟩
      replace hr7 := hr7.ext hE8
      replace hE := (hE.trans hE7).trans hE8
      clear hE7 hE8 hS1 hS2
      by_cases hL0 : L.length = 0
      · have hLn : L = [] := List.length_eq_zero_iff.1 hL0
        have HT := some_any (hx.ext hE) (by rw [HLN.out]; omega)
        rw [HANY.out hLn, HLN.out] at HT
        subst hLn
        clear hL0
        go_wp2_with fail
        refine HT.mono ?_
        rintro e w9 ⟨rfl, hE9⟩
        clear HT
        go_wp2
        go_loopw [17] (fun ii W => ii = .int .i64 0 ∧ Ext w W) (fun _ _ => 0)
        case atStart => exact ⟨rfl, hE.trans hE9⟩
        case round =>
          obtain ⟨rfl, hE10⟩ := hrel
          go_wp2
          go_ret
          exact ⟨rfl, hE10⟩
      · have hL0i : ((L.length : Int) == 0) = false := by simpa using hL0
        obtain ⟨w8', h8⟩ : ∃ W, W = w8 := ⟨_, rfl⟩
        go_wp2
        go_loopw [17] (fun ii W => ∃ j : Nat, j ≤ L.length ∧ ii = .int .i64 j ∧ Ext w8 W) (fun ii _ => L.length - (intOf ii).toNat)
        case atStart => exact ⟨0, Nat.zero_le _, rfl, Below.refl _ _⟩
        case round =>
          obtain ⟨j, hj, rfl, hE9⟩ := hrel
          by_cases hlt2 : j < L.length
          · obtain ⟨u, hu⟩ : ∃ u, L[j]? = some u := ⟨_, List.getElem?_eq_getElem hlt2⟩
            obtain ⟨g, rfl, hlc7, _, _, _⟩ := (hr7.ext hE9).at hu
            obtain ⟨g', rfl, hlc8, _, _, _⟩ := (hr8.ext hE9).at hu
            have hkc : j < c7 := by omega
            have hkd : j < c8 := by omega
            have x0 : ∀ W, Ext wr W → W.cell? ⟨g, j * 2, none⟩ = some (.int .i64 u.lo) := fun W h => by
              obtain ⟨g2, e, _, _, h1, _⟩ := (hr7.ext (hE9.trans h)).at hu
              injection e with e; injection e with e; subst e; exact h1
            have x1 : ∀ W, Ext wr W → W.cell? ⟨g, j * 2 + 1, none⟩ = some (.int .i64 u.hi) := fun W h => by
              obtain ⟨g2, e, _, _, _, h1⟩ := (hr7.ext (hE9.trans h)).at hu
              injection e with e; injection e with e; subst e; exact h1
            have y0 : ∀ W, Ext wr W → W.cell? ⟨g', j * 2, none⟩ = some (.int .i64 u.lo) := fun W h => by
              obtain ⟨g2, e, _, _, h1, _⟩ := (hr8.ext (hE9.trans h)).at hu
              injection e with e; injection e with e; subst e; exact h1
            have y1 : ∀ W, Ext wr W → W.cell? ⟨g', j * 2 + 1, none⟩ = some (.int .i64 u.hi) := fun W h => by
              obtain ⟨g2, e, _, _, _, h1⟩ := (hr8.ext (hE9.trans h)).at hu
              injection e with e; injection e with e; subst e; exact h1
            have hq := neqRi u u
            rw [decide_eq_true rfl] at hq
            clear hu
            go_wp2
            refine wp_region_rg Ext rel_ext (fun _ => True) [0, 1, 2, 3, 4, 5, 6, 7, 8] (fun _ => none) (fun _ => none) (fun _ => false) (by kernel_rfl) (by kernel_rfl) (fun _ _ _ _ => trivial) trivial (fun W N hW _ hN => ?_)
            have hEW := hW
            repeat (first | (apply wpR_one; (case ho => (simp only [List.getElem?_toArray, List.getElem?_cons_succ, List.getElem?_cons_zero]; try exact rfl)); (case hw => rfl); (case hl => rfl); (case hsp => rfl); (case he => rfl); (case hv => (intro w' hw'; (try (have hw2 := Ext.trans hEW hw')); (try (have hw3 := Exc.trans hEW hw')); (try (have hw4 := Exk.trans hEW hw')); (try (have hw5 := Mrk.trans hEW hw')); go_simp; exact rfl)); (case hw0 => (first | exact Below.refl _ _ | exact Exc.of_ext (Below.refl _ _) | exact Exk.of_ext (Below.refl _ _) | exact Mrk.of_ext (Below.refl _ _))); simp only [Act.put, List.setIfInBounds_toArray, List.set_cons_succ, List.set_cons_zero]) | (apply wpR_early; (case ho => (simp only [List.getElem?_toArray, List.getElem?_cons_succ, List.getElem?_cons_zero]; try exact rfl)); (case hw => rfl); (case hl => rfl); (case hsp => rfl); (case he => rfl); (case hv => (intro w' hw'; (try have hw2 := Ext.trans hEW hw'); go_simp; exact rfl)); simp only [Act.put, List.setIfInBounds_toArray, List.set_cons_succ, List.set_cons_zero]) | (apply wpR_pass; (case ho => (simp only [List.getElem?_toArray, List.getElem?_cons_succ, List.getElem?_cons_zero]; try exact rfl)); (case hw => rfl); (case hl => rfl); simp only [Act.put, List.setIfInBounds_toArray, List.set_cons_succ, List.set_cons_zero]))
            apply wpR_nil
            apply hN
            intro w' hE' hK _
            have hE10 := (hE9.trans hEW).trans hE'
            clear hK hN x0 x1 y0 y1 hW hEW hE' hq
            go_wp2
            go_roundw
            case rel => exact ⟨j + 1, by omega, by go_num, hE10⟩
            case measure => simp [intOf]; omega
          · obtain rfl : j = L.length := by omega
            go_wp2
            go_ret
            exact ⟨rfl, hE.trans hE9⟩
end Go.Proofs.Ytffapgemacbdjaa
