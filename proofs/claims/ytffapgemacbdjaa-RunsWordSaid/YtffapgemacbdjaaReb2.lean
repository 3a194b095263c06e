/- Layer 5: the document's Norm. No condition. -/
import Derived.Test.YtffapgemacbdjaaRea
namespace Go.Proofs.Ytffapgemacbdjaa
open Go.RowKit Go.Proofs Go.Shelf
set_option linter.unusedVariables false
attribute [local go_sem] Oper.semAt_some
/-- Two rows of runs of the call's own, apart. -/
structure TwoRr (B : Nat) (w : World) (Aa : Option Addr) (ca : Nat) (al : List Rn) (Ab : Option Addr) (cb : Nat) (bl : List Rn) : Prop where
  a : RowRr B w Aa ca al
  b : RowRr B w Ab cb bl
  sep : ∀ q, (Value.slice Aa al.length ca).ownBlock = some q → (Value.slice Ab bl.length cb).ownBlock ≠ some q
theorem TwoRr.ext {B : Nat} {w w' : World} {Aa Ab : Option Addr} {ca cb : Nat} {al bl : List Rn} (h : TwoRr B w Aa ca al Ab cb bl) (he : Ext w w') : TwoRr B w' Aa ca al Ab cb bl := ⟨h.a.ext he, h.b.ext he, h.sep⟩
theorem TwoRr.swap {B : Nat} {w : World} {Aa Ab : Option Addr} {ca cb : Nat} {al bl : List Rn} (h : TwoRr B w Aa ca al Ab cb bl) : TwoRr B w Ab cb bl Aa ca al := ⟨h.b, h.a, fun q h1 h2 => h.sep q h2 h1⟩
theorem TwoRr.push {B : Nat} {w w3 : World} {Aa Ab : Option Addr} {ca cb : Nat} {al bl : List Rn} {x : Rn} {v' : Value} (h : TwoRr B w Aa ca al Ab cb bl) (ho3 : w3.ownsRow B 26 2 v' (al.length + 1) (al.flatMap rcr ++ [.int .i64 x.lo, .int .i64 x.hi]))
    (hc3 : (∃ A c, Value.slice Aa al.length ca = .slice A al.length c ∧ v' = .slice A (al.length + 1) c ∧ w.grownBy w3 (Value.slice Aa al.length ca).ownBlock) ∨ (w.grownBy w3 none ∧ ∀ g, v'.ownBlock = some g → w.heap.size ≤ g)) : ∃ A' c', v' = .slice A' (al.length + 1) c' ∧ TwoRr B w3 A' c' (al ++ [x]) Ab cb bl ∧ Exc (fun q _ => B ≤ q ∧ (Value.slice Aa al.length ca).ownBlock = some q) w w3 := by
  obtain ⟨oo, hs⟩ := sep_push h.a h.b h.sep hc3
  obtain ⟨A3, c3, rfl, o3, hx⟩ := push1r h.a ho3 hc3
  refine ⟨A3, c3, rfl, ⟨o3, oo, fun q hq => hs q ?_⟩, hx⟩
  rw [List.length_append] at hq
  exact hq
theorem flat_set : ∀ (L : List Rn) (k : Nat) (y : Rn), k < L.length → (L.flatMap rcr).take (k * 2) ++ rcr y ++ (L.flatMap rcr).drop ((k + 1) * 2) = (L.set k y).flatMap rcr
  | [], k, y, h => by simp at h
  | x :: L, 0, y, h => by simp [List.flatMap_cons]
  | x :: L, k + 1, y, h => by
    have ih := flat_set L k y (by simpa using h)
    rw [List.set_cons_succ, List.flatMap_cons, List.flatMap_cons, ← ih]
    rw [show (k + 1) * 2 = k * 2 + 2 by omega, show (k + 1 + 1) * 2 = (k * 2 + 2) + 2 by omega]
    simp
theorem flat_set1 (o : List Rn) (y : Rn) (z : Int) : ((o ++ [y]).flatMap rcr).set (o.length * 2 + 1) (.int .i64 z) = (o ++ [(⟨y.lo, z⟩ : Rn)]).flatMap rcr := by
  rw [List.flatMap_append, List.flatMap_append, ← rlenr o, List.set_append_right _ _ (by omega)]
  congr 1
  rw [show (o.flatMap rcr).length + 1 - (o.flatMap rcr).length = 1 by omega]
  rfl
theorem flat_last (L : List Rn) : (L.flatMap rcr).take ((L.length - 1) * 2) = (L.take (L.length - 1)).flatMap rcr := by
  rcases List.eq_nil_or_concat L with rfl | ⟨l, x, rfl⟩
  · rfl
  · rw [List.concat_eq_append]
    simp only [List.length_append, List.length_cons, List.length_nil, Nat.zero_add, Nat.add_sub_cancel, List.take_left']
    rw [List.flatMap_append, ← rlenr l, List.take_left']
    rfl
theorem RowRr.readg {B : Nat} {w : World} {g : Nat} {c : Nat} {L : List Rn} (h : RowRr B w (some ⟨g, 0, none⟩) c L) {k : Nat} {x : Rn} (hx : L[k]? = some x) : k < c ∧ ∀ W, Ext w W → W.cell? ⟨g, k * 2, none⟩ = some (.int .i64 x.lo) ∧ W.cell? ⟨g, k * 2 + 1, none⟩ = some (.int .i64 x.hi) := by
  obtain ⟨g2, e, h1, h2⟩ := h.read hx
  injection e with e; injection e with e; subst e
  exact ⟨h1, h2⟩
theorem take_at {L : List Rn} {m n : Nat} {xe : Rn} (hn : L.length = n + 1) (he : L[n]? = some xe) : (L.set m xe).take n = takeAt L m := by
  unfold takeAt
  rw [hn, Nat.add_sub_cancel]
  congr 2
  rw [List.getD_eq_getElem?_getD, he]
  rfl
theorem flat_take : ∀ (L : List Rn) (n : Nat), (L.flatMap rcr).take (n * 2) = (L.take n).flatMap rcr
  | [], n => by simp
  | x :: L, 0 => by simp
  | x :: L, n + 1 => by
    rw [List.take_succ_cons, List.flatMap_cons, List.flatMap_cons, ← flat_take L n, show (n + 1) * 2 = n * 2 + 2 by omega]
    simp
theorem RowRr.cut {B : Nat} {w : World} {g c : Nat} {il : List Rn} {m n1 : Nat} {xe : Rn} (h : w.ownsRow B 26 2 (.slice (some ⟨g, 0, none⟩) il.length c) il.length ((il.flatMap rcr).take (m * 2) ++ [.int .i64 xe.lo, .int .i64 xe.hi] ++ (il.flatMap rcr).drop ((m + 1) * 2)))
    (hm : m < il.length) (hn : il.length = n1 + 1) (he : il[n1]? = some xe) : RowRr B w (some ⟨g, 0, none⟩) c (takeAt il m) := by
  have e := flat_set il m xe hm
  rw [show (il.flatMap rcr).take (m * 2) ++ [.int .i64 xe.lo, .int .i64 xe.hi] ++ (il.flatMap rcr).drop ((m + 1) * 2) = (il.set m xe).flatMap rcr from e, hn] at h
  have h2 := own_prefix h
  rw [flat_take, take_at hn he] at h2
  unfold RowRr
  rw [takeAt_len, hn, Nat.add_sub_cancel]
  exact h2
/-- The least of the first j. -/
def LeastJ (il : List Rn) (j m : Nat) : Prop := ∃ x, il[m]? = some x ∧ ∀ t y, t < j → il[t]? = some y → x.lo ≤ y.lo
set_option maxRecDepth 100000 in
set_option maxHeartbeats 4000000 in
theorem norm_any {B c : Nat} {A : Option Addr} {l : List Rn} {w : World} (hr : RowRr B w A c l) (hb : ∀ r ∈ l, Bdr r) (hl : l.length ≤ 1000000) :
    Calls Try.prog 123 #[.slice A l.length c] w fun e w' => ∃ A' c', e = .returned (.slice A' (normL l).length c') ∧ RowRr w.heap.size w' A' c' (normL l) ∧ Ext w w' := by
  obtain ⟨i0, hi0, hz0, hzz1, hzz2⟩ := info_parts infoRr
  go_enter Try.func123, Try.ntmps123
  go_wp2
  go_loopw [3, 4] (fun va iv wr => ∃ (k : Nat) (A1 : Option Addr) (c1 : Nat) (il : List Rn), k ≤ l.length ∧ iv = .int .i64 k ∧ va = .slice A1 il.length c1 ∧ Hid (il = (l.take k).filter (fun r => decide (r.lo ≤ r.hi))) ∧ il.length ≤ k ∧ RowRr w.heap.size wr A1 c1 il ∧ Ext w wr) (fun _ iv _ => l.length - (intOf iv).toNat)
  case atStart => exact ⟨0, none, 0, [], Nat.zero_le _, rfl, rfl, Lib.hid rfl, Nat.le_refl _, World.ownsRow_nil _ _ _ _, Below.refl _ _⟩
  case round =>
    obtain ⟨k, A1, c1, il, hk, rfl, rfl, HF, hlen, ho1, hE⟩ := hrel
    by_cases hlt : k < l.length
    · obtain ⟨x, hx⟩ : ∃ x, l[k]? = some x := ⟨_, List.getElem?_eq_getElem hlt⟩
      obtain ⟨g, rfl, hkc, hcx⟩ := (hr.ext hE).read hx
      have hfs : (l.take (k + 1)).filter (fun r => decide (r.lo ≤ r.hi)) = il ++ (if x.lo ≤ x.hi then [x] else []) := by
        obtain ⟨h1, h2⟩ := List.getElem?_eq_some_iff.1 hx
        rw [List.take_succ_eq_append_getElem h1, List.filter_append, ← HF.out, h2]
        congr 1
        by_cases h : x.lo ≤ x.hi <;> simp [h]
      have HFS := Lib.hid hfs
      obtain ⟨xl, xh⟩ := x
      simp only at hcx
      have x0 : ∀ W, Ext wr W → W.cell? ⟨g, k * 2, none⟩ = some (.int .i64 xl) := fun W h => (hcx W h).1
      have x1 : ∀ W, Ext wr W → W.cell? ⟨g, k * 2 + 1, none⟩ = some (.int .i64 xh) := fun W h => (hcx W h).2
      clear hfs hcx hx HF
      go_wp2
      refine wp_region_rg Ext rel_ext (fun _ => True) [0, 1, 2, 3, 4, 5, 6, 7, 8, 9, 10] (fun _ => none) (fun _ => none) (fun _ => false) (by kernel_rfl) (by kernel_rfl) (fun _ _ _ _ => trivial) trivial (fun W N hW _ hN => ?_)
      have hEW := hW
      repeat (first | (apply wpR_one; (case ho => (simp only [List.getElem?_toArray, List.getElem?_cons_succ, List.getElem?_cons_zero]; try exact rfl)); (case hw => rfl); (case hl => rfl); (case hsp => rfl); (case he => rfl); (case hv => (intro w' hw'; (try (have hw2 := Ext.trans hEW hw')); (try (have hw3 := Exc.trans hEW hw')); (try (have hw4 := Exk.trans hEW hw')); (try (have hw5 := Mrk.trans hEW hw')); go_simp; exact rfl)); (case hw0 => (first | exact Below.refl _ _ | exact Exc.of_ext (Below.refl _ _) | exact Exk.of_ext (Below.refl _ _) | exact Mrk.of_ext (Below.refl _ _))); simp only [Act.put, List.setIfInBounds_toArray, List.set_cons_succ, List.set_cons_zero]) | (apply wpR_early; (case ho => (simp only [List.getElem?_toArray, List.getElem?_cons_succ, List.getElem?_cons_zero]; try exact rfl)); (case hw => rfl); (case hl => rfl); (case hsp => rfl); (case he => rfl); (case hv => (intro w' hw'; (try have hw2 := Ext.trans hEW hw'); go_simp; exact rfl)); simp only [Act.put, List.setIfInBounds_toArray, List.set_cons_succ, List.set_cons_zero]) | (apply wpR_pass; (case ho => (simp only [List.getElem?_toArray, List.getElem?_cons_succ, List.getElem?_cons_zero]; try exact rfl)); (case hw => rfl); (case hl => rfl); simp only [Act.put, List.setIfInBounds_toArray, List.set_cons_succ, List.set_cons_zero]))
      apply wpR_nil
      apply hN
      intro w' hE' hK _
      have hEE := hEW.trans hE'
      have hE2 := hE.trans hEE
      have hs2 := hE2.size
      have ho2 := ho1.ext hEE
      have y0 := x0 w' hEE
      have y1 := x1 w' hEE
      clear hK hN x0 x1 hW hEW hE' hE hEE ho1
      by_cases hle : xl ≤ xh
      · have HF2 : Hid (il ++ [⟨xl, xh⟩] = (l.take (k + 1)).filter (fun r => decide (r.lo ≤ r.hi))) := Lib.hid (by rw [HFS.out, if_pos hle])
        go_wp2_with (at_builtin; refine wpList_append_apart rfl _ _ 22 rfl w.heap.size 26 i0 _ 2 16 Try.underlying22 hi0 hz0 hzz1 hzz2 rfl (by decide) _ il.length _ rfl (own_ext ho2 (ext_alloc _ _)) ⟨w'.heap.size, 0, none⟩ 1 1 [.int .i64 xl, .int .i64 xh] rfl rfl (news_row w' _ _ _) (by intro u hu; simp only [List.mem_cons, List.not_mem_nil, or_false] at hu; rcases hu with rfl | rfl <;> rfl) (by decide) (by simp [maxLen]; omega) (by omega) (by simp; omega) ?_; intro v' w3 ho3 hc3)
        obtain ⟨A3, c3, rfl, o3, hx3⟩ := push1r (x := ⟨xl, xh⟩) (own_ext ho2 (ext_alloc _ _)) ho3 hc3
        have hE3 := hx3.to_ext (hE2.trans (ext_alloc _ _)) (fun q o h => h.1)
        clear ho3 hc3 hx3 ho2
        go_wp2
        go_roundw
        case rel => exact ⟨k + 1, A3, c3, il ++ [⟨xl, xh⟩], by omega, by go_num, by simp, HF2, by simp; omega, o3, hE3⟩
        case measure => simp [intOf]; omega
      · have HF2 : Hid (il = (l.take (k + 1)).filter (fun r => decide (r.lo ≤ r.hi))) := Lib.hid (by rw [HFS.out, if_neg hle, List.append_nil])
        go_wp2
        go_roundw
        case rel => exact ⟨k + 1, A1, c1, il, by omega, by go_num, rfl, HF2, by omega, ho2, hE2⟩
        case measure => simp [intOf]; omega
    · obtain rfl : k = l.length := by omega
      have hst := NormOk.start (l := l) (i := il) (by have := HF.out; rwa [List.take_length] at this)
      have hib : ∀ r ∈ il, Bdr r := fun r hr => by
        rw [HF.out, List.take_length] at hr
        exact hb r (List.mem_filter.1 hr).1
      clear HF
      go_wp2
      go_loopw [3, 5] (fun va vb wx => ∃ (A1 : Option Addr) (c1 : Nat) (il : List Rn) (A2 : Option Addr) (c2 : Nat) (ol : List Rn), va = .slice A1 il.length c1 ∧ vb = .slice A2 ol.length c2 ∧ NormOk l il ol ∧ (∀ r ∈ il, Bdr r) ∧ (∀ r ∈ ol, Bdr r) ∧ il.length + ol.length ≤ l.length ∧ TwoRr w.heap.size wx A1 c1 il A2 c2 ol ∧ Ext w wx) (fun va _ _ => match va with | .slice _ n _ => n | _ => 0)
      case atStart => exact ⟨A1, c1, il, none, 0, [], rfl, rfl, hst, hib, fun r h => (by cases h), by simpa using hlen, ⟨ho1, World.ownsRow_nil _ _ _ _, fun q h1 h2 => by cases h2⟩, hE⟩
      case round =>
        clear hst hib ho1 hE hlen
        obtain ⟨A1, c1, il, A2, c2, ol, rfl, rfl, hok, hib, hob, hlen, htw, hE⟩ := hrel
        rename World => v1
        by_cases hpos : 0 < il.length
        · obtain ⟨n1, hn1⟩ : ∃ n, il.length = n + 1 := ⟨il.length - 1, by omega⟩
          obtain ⟨xa, hxa⟩ : ∃ x, il[0]? = some x := ⟨_, List.getElem?_eq_getElem hpos⟩
          obtain ⟨xe, hxe⟩ : ∃ x, il[n1]? = some x := ⟨_, List.getElem?_eq_getElem (by omega)⟩
          obtain ⟨g1, rfl, _, _⟩ := htw.a.read hxa
          have hszv := hE.size
          have hcl : il.length ≤ c1 := by obtain ⟨h1, _⟩ := htw.a.readg hxe; omega
          have HN1 := Lib.hid hn1
          have hn1a : n1 + 1 ≤ l.length := by omega
          clear hn1
          go_wp2
          go_loopw [6, 7] (fun mv jv wx => ∃ j m : Nat, j ≤ il.length ∧ m < il.length ∧ mv = .int .i64 m ∧ jv = .int .i64 j ∧ Hid (LeastJ il j m) ∧ Ext v1 wx) (fun _ jv _ => il.length - (intOf jv).toNat)
          case atStart => exact ⟨0, 0, Nat.zero_le _, hpos, rfl, rfl, Lib.hid ⟨xa, hxa, fun t y h => absurd h (Nat.not_lt_zero _)⟩, Below.refl _ _⟩
          case round =>
            obtain ⟨j, m, hj, hm, rfl, rfl, HL, hEx⟩ := hrel
            by_cases hjl : j < il.length
            · obtain ⟨xj, hxj⟩ : ∃ x, il[j]? = some x := ⟨_, List.getElem?_eq_getElem hjl⟩
              obtain ⟨xm, hxm, hall⟩ := HL.out
              obtain ⟨hjc, hcj⟩ := (htw.a.ext hEx).readg hxj
              obtain ⟨hmc, hcm⟩ := (htw.a.ext hEx).readg hxm
              have x0 : ∀ W, Ext wr W → W.cell? ⟨g1, j * 2, none⟩ = some (.int .i64 xj.lo) := fun W h => (hcj W h).1
              have x1 : ∀ W, Ext wr W → W.cell? ⟨g1, m * 2, none⟩ = some (.int .i64 xm.lo) := fun W h => (hcm W h).1
              have HJ := Lib.hid hxj
              have HM := Lib.hid hxm
              have HA := Lib.hid hall
              clear hcj hcm hxj hxm hall HL hxa hxe
              go_wp2
              refine wp_region_rg Ext rel_ext (fun _ => True) [0, 1, 2, 3, 4, 5, 6, 7, 8, 9, 10] (fun _ => none) (fun _ => none) (fun _ => false) (by kernel_rfl) (by kernel_rfl) (fun _ _ _ _ => trivial) trivial (fun W N hW _ hN => ?_)
              have hEW := hW
              repeat (first | (apply wpR_one; (case ho => (simp only [List.getElem?_toArray, List.getElem?_cons_succ, List.getElem?_cons_zero]; try exact rfl)); (case hw => rfl); (case hl => rfl); (case hsp => rfl); (case he => rfl); (case hv => (intro w' hw'; (try (have hw2 := Ext.trans hEW hw')); (try (have hw3 := Exc.trans hEW hw')); (try (have hw4 := Exk.trans hEW hw')); (try (have hw5 := Mrk.trans hEW hw')); go_simp; exact rfl)); (case hw0 => (first | exact Below.refl _ _ | exact Exc.of_ext (Below.refl _ _) | exact Exk.of_ext (Below.refl _ _) | exact Mrk.of_ext (Below.refl _ _))); simp only [Act.put, List.setIfInBounds_toArray, List.set_cons_succ, List.set_cons_zero]) | (apply wpR_early; (case ho => (simp only [List.getElem?_toArray, List.getElem?_cons_succ, List.getElem?_cons_zero]; try exact rfl)); (case hw => rfl); (case hl => rfl); (case hsp => rfl); (case he => rfl); (case hv => (intro w' hw'; (try have hw2 := Ext.trans hEW hw'); go_simp; exact rfl)); simp only [Act.put, List.setIfInBounds_toArray, List.set_cons_succ, List.set_cons_zero]) | (apply wpR_pass; (case ho => (simp only [List.getElem?_toArray, List.getElem?_cons_succ, List.getElem?_cons_zero]; try exact rfl)); (case hw => rfl); (case hl => rfl); simp only [Act.put, List.setIfInBounds_toArray, List.set_cons_succ, List.set_cons_zero]))
              apply wpR_nil
              apply hN
              intro w' hE' hK _
              have hE2 := hEx.trans (hEW.trans hE')
              clear hK hN x0 x1 hW hEW hE' hEx
              by_cases hlt2 : xj.lo < xm.lo
              · have HL2 : Hid (LeastJ il (j + 1) j) := Lib.hid ⟨xj, HJ.out, fun t y ht hy => by
                  by_cases htj : t = j
                  · subst htj
                    have := HJ.out
                    rw [hy] at this
                    injection this with this
                    subst this
                    exact Int.le_refl _
                  · have := HA.out t y (by omega) hy
                    omega⟩
                go_wp2
                go_roundw
                case rel => exact ⟨j + 1, j, by omega, hjl, rfl, by go_num, HL2, hE2⟩
                case measure => simp [intOf]; omega
              · have HL2 : Hid (LeastJ il (j + 1) m) := Lib.hid ⟨xm, HM.out, fun t y ht hy => by
                  by_cases htj : t = j
                  · subst htj
                    have := HJ.out
                    rw [hy] at this
                    injection this with this
                    subst this
                    omega
                  · exact HA.out t y (by omega) hy⟩
                go_wp2
                go_roundw
                case rel => exact ⟨j + 1, m, by omega, hm, rfl, by go_num, HL2, hE2⟩
                case measure => simp [intOf]; omega
            · obtain rfl : j = il.length := by omega
              obtain ⟨x, hxm, hall⟩ := HL.out
              have hmin : ∀ r ∈ il, x.lo ≤ r.lo := fun r hr => by
                obtain ⟨t, ht, e⟩ := List.mem_iff_getElem.1 hr
                exact hall t r ht (by rw [← e]; exact List.getElem?_eq_getElem ht)
              have hbx := hib x (List.mem_of_getElem? hxm)
              have htw1 := htw.ext hEx
              obtain ⟨hmc, hcm⟩ := htw1.a.readg hxm
              obtain ⟨hec, hce⟩ := htw1.a.readg hxe
              have hE1 := hE.trans hEx
              have hszr := hEx.size
              have hta := take_at (m := m) HN1.out hxe
              have htl : (takeAt il m).length = n1 := by rw [takeAt_len, HN1.out, Nat.add_sub_cancel]
              have hnew := fun (ho : ∀ o' y, ol = o' ++ [y] → y.hi + 1 < x.lo) => hok.new hxm hmin ho
              have hjoin := fun (o : List Rn) (y : Rn) (e : ol = o ++ [y]) (h1 : x.lo ≤ y.hi + 1) => NormOk.join (o := o) (y := y) (by rw [← e]; exact hok) hxm hmin h1
              have hib2 : ∀ r ∈ takeAt il m, Bdr r := fun r hr => hib r ((takeAt_in hxm r).2 (.inl hr))
              have HNEW := Lib.hid hnew
              have HJOIN := Lib.hid hjoin
              obtain ⟨il2, hil2⟩ : ∃ il2, takeAt il m = il2 := ⟨_, rfl⟩
              rw [hil2] at hta htl hib2
              have HTL := Lib.hid htl
              have HTA := Lib.hid hta
              have HI2 := Lib.hid hil2
              have HXE := Lib.hid hxe
              obtain ⟨xl, xh⟩ := x
              obtain ⟨el, eh⟩ := xe
              have y0 := (hcm wr (Below.refl _ _)).1
              have y1 := (hcm wr (Below.refl _ _)).2
              have eb := ext_alloc wr (Obj.cells #[.int .i64 xl, .int .i64 xh] 26)
              have hbk := heap_alloc_new wr (Obj.cells #[.int .i64 xl, .int .i64 xh] 26)
              have z0 := (hce _ eb).1
              have z1 := (hce _ eb).2
              have hg1 := (World.ownsRow.lt htw1.a g1 rfl)
              simp only at y0 y1 z0 z1
              have hlm : il.length - 1 = n1 := by rw [HN1.out]; rfl
              have hwn : IntKind.i64.wrap ((il.length : Int) - 1) = (n1 : Int) := by rw [IntKind.wrap_i64]; have := HN1.out; omega
              have hwn0 : (0 : Int) ≤ (n1 : Int) := by omega
              have hn1l : n1 < il.length := by have := HN1.out; omega
              have hn1l2 : (n1 : Int) < (il.length : Int) := by omega
              clear hxa hxe hxm hall hmin HL hcm hce hta htl hil2 hok hnew hjoin htw hEx hlm
              go_wp2_with (refine wpList_store_own rfl 26 (.tmp 67) (.tmp 66) rfl g1 il.length c1 [.int .i64 el, .int .i64 eh] rfl rfl (own_ext htw1.a eb) hm rfl (by kernel_rfl) (roner [⟨el, eh⟩]) ?_; intro w3 ho3 hg3)
              have ho4 : RowRr w.heap.size w3 (some ⟨g1, 0, none⟩) c1 il2 := by
                rw [← HI2.out]
                exact RowRr.cut (xe := ⟨el, eh⟩) ho3 hm HN1.out HXE.out
              have htw3 : TwoRr w.heap.size w3 (some ⟨g1, 0, none⟩) c1 il2 A2 c2 ol := ⟨ho4, World.ownsRow.kept (own_ext htw1.b eb) hg3 (.inr fun e => htw1.sep g1 rfl e), fun q h1 h2 => htw1.sep q h1 h2⟩
              have hbk3 := (hg3.block wr.heap.size (by simp) (fun e => by injection e with e; omega)).trans hbk
              have hE3 : Ext w w3 := ext_only (hE1.trans eb) hg3 hg1.1
              have b0 : ∀ W, Ext w3 W → W.cell? ⟨wr.heap.size, 0, none⟩ = some (.int .i64 xl) := fun W h => cell_of_row _ _ _ _ _ _ (h.blk hbk3)
              have b1 : ∀ W, Ext w3 W → W.cell? ⟨wr.heap.size, 1, none⟩ = some (.int .i64 xh) := fun W h => cell_of_row _ _ _ _ _ _ (h.blk hbk3)
              have hsl : il2.length + (ol.length + 1) ≤ l.length := by have := HTL.out; have := HN1.out; omega
              have hszw3 := hE3.size
              clear ho3 ho4 hg3 htw1 eb hbk hbk3 y0 y1 z0 z1 hE1 hE hmc hec
              have hltl : il2.length < il.length := by have := HTL.out; have := HN1.out; omega
              rw [← HTL.out]
              rcases List.eq_nil_or_concat ol with e | ⟨o, y, e⟩
              · subst e
                have hok2 := HNEW.out (fun o' y e => absurd (congrArg List.length e) (by simp))
                rw [HI2.out, List.nil_append] at hok2
                refine wp_region_rg Ext rel_ext (fun _ => True) [0, 1, 2, 3, 4, 5, 6, 7, 8, 9, 10, 11, 12, 13, 14, 15, 16, 17, 18, 19, 20, 21, 22] (fun _ => none) (fun _ => none) (fun _ => false) (by kernel_rfl) (by kernel_rfl) (fun _ _ _ _ => trivial) trivial (fun W N hW _ hN => ?_)
                have hEW := hW
                repeat (first | (apply wpR_one; (case ho => (simp only [List.getElem?_toArray, List.getElem?_cons_succ, List.getElem?_cons_zero]; try exact rfl)); (case hw => rfl); (case hl => rfl); (case hsp => rfl); (case he => rfl); (case hv => (intro w' hw'; (try (have hw2 := Ext.trans hEW hw')); (try (have hw3 := Exc.trans hEW hw')); (try (have hw4 := Exk.trans hEW hw')); (try (have hw5 := Mrk.trans hEW hw')); go_simp; exact rfl)); (case hw0 => (first | exact Below.refl _ _ | exact Exc.of_ext (Below.refl _ _) | exact Exk.of_ext (Below.refl _ _) | exact Mrk.of_ext (Below.refl _ _))); simp only [Act.put, List.setIfInBounds_toArray, List.set_cons_succ, List.set_cons_zero]) | (apply wpR_early; (case ho => (simp only [List.getElem?_toArray, List.getElem?_cons_succ, List.getElem?_cons_zero]; try exact rfl)); (case hw => rfl); (case hl => rfl); (case hsp => rfl); (case he => rfl); (case hv => (intro w' hw'; (try have hw2 := Ext.trans hEW hw'); go_simp; exact rfl)); simp only [Act.put, List.setIfInBounds_toArray, List.set_cons_succ, List.set_cons_zero]) | (apply wpR_pass; (case ho => (simp only [List.getElem?_toArray, List.getElem?_cons_succ, List.getElem?_cons_zero]; try exact rfl)); (case hw => rfl); (case hl => rfl); simp only [Act.put, List.setIfInBounds_toArray, List.set_cons_succ, List.set_cons_zero]))
                apply wpR_nil
                apply hN
                intro w' hE' hK _
                have hEE := hEW.trans hE'
                have c0 := b0 w' hEE
                have c1' := b1 w' hEE
                have ho2 := (htw3.ext hEE)
                have hE2 := hE3.trans hEE
                have hs2 := hE2.size
                clear hK hN b0 b1 hW hEW hE' hEE
                go_wp2_with (at_builtin; refine wpList_append_apart rfl _ _ 22 rfl w.heap.size 26 i0 _ 2 16 Try.underlying22 hi0 hz0 hzz1 hzz2 rfl (by decide) _ 0 _ rfl (own_ext ho2.b (ext_alloc _ _)) ⟨w'.heap.size, 0, none⟩ 1 1 [.int .i64 xl, .int .i64 xh] rfl rfl (news_row w' _ _ _) (by intro u hu; simp only [List.mem_cons, List.not_mem_nil, or_false] at hu; rcases hu with rfl | rfl <;> rfl) (by decide) (by unfold maxLen; omega) (by omega) (by simp; omega) ?_; intro v' w4 ho4 hc4)
                obtain ⟨A3, c3, rfl, htw4, hx4⟩ := TwoRr.push (x := ⟨xl, xh⟩) (ho2.swap.ext (ext_alloc _ _)) ho4 hc4
                have hE4 := hx4.to_ext (hE2.trans (ext_alloc _ _)) (fun q o h => h.1)
                clear ho4 hc4 hx4 ho2
                go_wp2
                go_roundw
                case rel => exact ⟨_, c1, il2, A3, c3, [⟨xl, xh⟩], rfl, rfl, hok2, hib2, fun r hr => (by rcases List.mem_cons.1 hr with rfl | hr; exact hbx; cases hr), by simpa using hsl, htw4.swap, hE4⟩
                case measure => exact hltl
              · rw [List.concat_eq_append] at e
                subst e
                obtain ⟨g2, rfl, _, _⟩ := htw3.b.read (k := o.length) (x := y) (by simp)
                obtain ⟨hoc, hcy⟩ := htw3.b.readg (k := o.length) (x := y) (by simp)
                have hby := hob y (by simp)
                obtain ⟨yl, yh⟩ := y
                have hby2 := hby
                obtain ⟨⟨d1, d2⟩, d3, d4⟩ := hby2
                have hbx2 := hbx
                obtain ⟨⟨f1, f2⟩, f3, f4⟩ := hbx2
                simp only at d1 d2 d3 d4 f1 f2 f3 f4 hcy
                have k1 : ∀ W, Ext w3 W → W.cell? ⟨g2, o.length * 2 + 1, none⟩ = some (.int .i64 yh) := fun W h => (hcy W h).2
                have hym : (yh == 9223372036854775807) = false := by simp; omega
                have hwy : IntKind.i64.wrap (yh + 1) = yh + 1 := by rw [IntKind.wrap_i64]; omega
                have hle0 : (o ++ [(⟨yl, yh⟩ : Rn)]).length = o.length + 1 := by simp
                rw [hle0] at hsl
                rw [hle0]
                have hwo : IntKind.i64.wrap (o.length : Int) = (o.length : Int) := by rw [IntKind.wrap_i64]; omega
                have hol : (o.length : Int) < (o.length : Int) + 1 := by omega
                have hnn : (0 : Int) < (o.length : Int) + 1 := by omega
                clear hle0 hcy
                by_cases hjn : xl ≤ yh + 1
                · have hjd : decide (xl ≤ yh + 1) = true := decide_eq_true hjn
                  have hok2 := HJOIN.out o ⟨yl, yh⟩ rfl hjn
                  rw [HI2.out] at hok2
                  simp only at hok2
                  refine wp_region_rg Ext rel_ext (fun _ => True) [0, 1, 2, 3, 4, 5, 6, 7, 8, 9, 10, 11, 12, 13, 14, 15, 16, 17, 18, 19, 20, 21, 22] (fun _ => none) (fun _ => none) (fun _ => false) (by kernel_rfl) (by kernel_rfl) (fun _ _ _ _ => trivial) trivial (fun W N hW _ hN => ?_)
                  have hEW := hW
                  repeat (first | (apply wpR_one; (case ho => (simp only [List.getElem?_toArray, List.getElem?_cons_succ, List.getElem?_cons_zero]; try exact rfl)); (case hw => rfl); (case hl => rfl); (case hsp => rfl); (case he => rfl); (case hv => (intro w' hw'; (try (have hw2 := Ext.trans hEW hw')); (try (have hw3 := Exc.trans hEW hw')); (try (have hw4 := Exk.trans hEW hw')); (try (have hw5 := Mrk.trans hEW hw')); go_simp; exact rfl)); (case hw0 => (first | exact Below.refl _ _ | exact Exc.of_ext (Below.refl _ _) | exact Exk.of_ext (Below.refl _ _) | exact Mrk.of_ext (Below.refl _ _))); simp only [Act.put, List.setIfInBounds_toArray, List.set_cons_succ, List.set_cons_zero]) | (apply wpR_early; (case ho => (simp only [List.getElem?_toArray, List.getElem?_cons_succ, List.getElem?_cons_zero]; try exact rfl)); (case hw => rfl); (case hl => rfl); (case hsp => rfl); (case he => rfl); (case hv => (intro w' hw'; (try have hw2 := Ext.trans hEW hw'); go_simp; exact rfl)); simp only [Act.put, List.setIfInBounds_toArray, List.set_cons_succ, List.set_cons_zero]) | (apply wpR_pass; (case ho => (simp only [List.getElem?_toArray, List.getElem?_cons_succ, List.getElem?_cons_zero]; try exact rfl)); (case hw => rfl); (case hl => rfl); simp only [Act.put, List.setIfInBounds_toArray, List.set_cons_succ, List.set_cons_zero]))
                  apply wpR_nil
                  apply hN
                  intro w' hE' hK _
                  have hEE := hEW.trans hE'
                  have b1' : ∀ W, Ext w' W → W.cell? ⟨wr.heap.size, 1, none⟩ = some (.int .i64 xh) := fun W h => b1 W (hEE.trans h)
                  have k1' : ∀ W, Ext w' W → W.cell? ⟨g2, o.length * 2 + 1, none⟩ = some (.int .i64 yh) := fun W h => k1 W (hEE.trans h)
                  have ho2 := htw3.ext hEE
                  have hE2 := hE3.trans hEE
                  clear hK hN b0 b1 k1 hW hEW hE' hEE htw3 hE3
                  go_wp2
                  refine wp_region_rg Ext rel_ext (fun _ => True) [0, 1, 2, 3, 4, 5, 6, 7, 8] (fun _ => none) (fun _ => none) (fun _ => false) (by kernel_rfl) (by kernel_rfl) (fun _ _ _ _ => trivial) trivial (fun W N hW _ hN => ?_)
                  have hEW := hW
                  repeat (first | (apply wpR_one; (case ho => (simp only [List.getElem?_toArray, List.getElem?_cons_succ, List.getElem?_cons_zero]; try exact rfl)); (case hw => rfl); (case hl => rfl); (case hsp => rfl); (case he => rfl); (case hv => (intro w' hw'; (try (have hw2 := Ext.trans hEW hw')); (try (have hw3 := Exc.trans hEW hw')); (try (have hw4 := Exk.trans hEW hw')); (try (have hw5 := Mrk.trans hEW hw')); go_simp; exact rfl)); (case hw0 => (first | exact Below.refl _ _ | exact Exc.of_ext (Below.refl _ _) | exact Exk.of_ext (Below.refl _ _) | exact Mrk.of_ext (Below.refl _ _))); simp only [Act.put, List.setIfInBounds_toArray, List.set_cons_succ, List.set_cons_zero]) | (apply wpR_early; (case ho => (simp only [List.getElem?_toArray, List.getElem?_cons_succ, List.getElem?_cons_zero]; try exact rfl)); (case hw => rfl); (case hl => rfl); (case hsp => rfl); (case he => rfl); (case hv => (intro w' hw'; (try have hw2 := Ext.trans hEW hw'); go_simp; exact rfl)); simp only [Act.put, List.setIfInBounds_toArray, List.set_cons_succ, List.set_cons_zero]) | (apply wpR_pass; (case ho => (simp only [List.getElem?_toArray, List.getElem?_cons_succ, List.getElem?_cons_zero]; try exact rfl)); (case hw => rfl); (case hl => rfl); simp only [Act.put, List.setIfInBounds_toArray, List.set_cons_succ, List.set_cons_zero]))
                  apply wpR_nil
                  apply hN
                  intro w2 hE3 hK _
                  have hEE := hEW.trans hE3
                  have b2 := b1' w2 hEE
                  have k2 := k1' w2 hEE
                  have ho3 := ho2.ext hEE
                  have hE4 := hE2.trans hEE
                  have hf2 := World.ownsRow.frozenAt ho3.b (o.length * 2 + 1)
                  have hs2 := (World.ownsRow.lt ho3.b g2 rfl).1
                  clear hK hN b1' k1' hW hEW hE3 hEE ho2 hE2
                  by_cases hgt : yh < xh
                  · have hst := World.ownsRow.stored ho3.b (o.length * 2 + 1) (.int .i64 xh)
                    have hgr : w2.grownBy (w2.setCell ⟨g2, o.length * 2 + 1, none⟩ (.int .i64 xh)) (some g2) := ⟨rfl, rfl, rfl, by simp [World.setCell], fun k hk hn => Below.heap_setCell w2 _ _ k (by rintro rfl; exact hn rfl)⟩
                    have hE5 : Ext w (w2.setCell ⟨g2, o.length * 2 + 1, none⟩ (.int .i64 xh)) := ext_only hE4 hgr hs2
                    rw [flat_set1] at hst
                    have hmx : max yh xh = xh := by omega
                    rw [hmx] at hok2
                    have hl1 : (o ++ [(⟨yl, yh⟩ : Rn)]).length = (o ++ [(⟨yl, xh⟩ : Rn)]).length := by simp
                    have htw5 : TwoRr w.heap.size (w2.setCell ⟨g2, o.length * 2 + 1, none⟩ (.int .i64 xh)) (some ⟨g1, 0, none⟩) c1 il2 (some ⟨g2, 0, none⟩) c2 (o ++ [⟨yl, xh⟩]) := by
                      refine ⟨World.ownsRow.kept ho3.a hgr (.inr fun e => ho3.sep g2 e rfl), ?_, fun q h1 h2 => ho3.sep q h1 h2⟩
                      unfold RowRr
                      rw [← hl1]
                      exact hst.1
                    have hob2 : ∀ r ∈ o ++ [(⟨yl, xh⟩ : Rn)], Bdr r := fun r hr => by
                      rcases List.mem_append.1 hr with hr | hr
                      · exact hob r (List.mem_append.2 (.inl hr))
                      · rcases List.mem_cons.1 hr with rfl | hr
                        · exact ⟨⟨d1, d2⟩, f3, f4⟩
                        · cases hr
                    have hl2 : (o ++ [(⟨yl, xh⟩ : Rn)]).length = o.length + 1 := by simp
                    have HL2 := Lib.hid hl2
                    clear hst hgr hE4 ho3 hmx hl1 hl2
                    go_wp2
                    go_roundw
                    case rel => exact ⟨_, c1, il2, _, c2, o ++ [⟨yl, xh⟩], rfl, by rw [HL2.out], hok2, hib2, hob2, by rw [HL2.out]; omega, htw5, hE5⟩
                    case measure => exact hltl
                  · have hmx : max yh xh = yh := by omega
                    rw [hmx] at hok2
                    have hl2 : (o ++ [(⟨yl, yh⟩ : Rn)]).length = o.length + 1 := by simp
                    have HL2 := Lib.hid hl2
                    clear hmx hl2
                    go_wp2
                    go_roundw
                    case rel => exact ⟨_, c1, il2, _, c2, o ++ [⟨yl, yh⟩], rfl, by rw [HL2.out], hok2, hib2, hob, by rw [HL2.out]; omega, ho3, hE4⟩
                    case measure => exact hltl
                · have hjd : decide (xl ≤ yh + 1) = false := decide_eq_false hjn
                  have hok2 := HNEW.out (fun o' y' e => by
                    obtain ⟨_, e2⟩ := List.append_inj' e rfl
                    injection e2 with e2 _
                    subst e2
                    simp only
                    omega)
                  rw [HI2.out] at hok2
                  refine wp_region_rg Ext rel_ext (fun _ => True) [0, 1, 2, 3, 4, 5, 6, 7, 8, 9, 10, 11, 12, 13, 14, 15, 16, 17, 18, 19, 20, 21, 22] (fun _ => none) (fun _ => none) (fun _ => false) (by kernel_rfl) (by kernel_rfl) (fun _ _ _ _ => trivial) trivial (fun W N hW _ hN => ?_)
                  have hEW := hW
                  repeat (first | (apply wpR_one; (case ho => (simp only [List.getElem?_toArray, List.getElem?_cons_succ, List.getElem?_cons_zero]; try exact rfl)); (case hw => rfl); (case hl => rfl); (case hsp => rfl); (case he => rfl); (case hv => (intro w' hw'; (try (have hw2 := Ext.trans hEW hw')); (try (have hw3 := Exc.trans hEW hw')); (try (have hw4 := Exk.trans hEW hw')); (try (have hw5 := Mrk.trans hEW hw')); go_simp; exact rfl)); (case hw0 => (first | exact Below.refl _ _ | exact Exc.of_ext (Below.refl _ _) | exact Exk.of_ext (Below.refl _ _) | exact Mrk.of_ext (Below.refl _ _))); simp only [Act.put, List.setIfInBounds_toArray, List.set_cons_succ, List.set_cons_zero]) | (apply wpR_early; (case ho => (simp only [List.getElem?_toArray, List.getElem?_cons_succ, List.getElem?_cons_zero]; try exact rfl)); (case hw => rfl); (case hl => rfl); (case hsp => rfl); (case he => rfl); (case hv => (intro w' hw'; (try have hw2 := Ext.trans hEW hw'); go_simp; exact rfl)); simp only [Act.put, List.setIfInBounds_toArray, List.set_cons_succ, List.set_cons_zero]) | (apply wpR_pass; (case ho => (simp only [List.getElem?_toArray, List.getElem?_cons_succ, List.getElem?_cons_zero]; try exact rfl)); (case hw => rfl); (case hl => rfl); simp only [Act.put, List.setIfInBounds_toArray, List.set_cons_succ, List.set_cons_zero]))
                  apply wpR_nil
                  apply hN
                  intro w' hE' hK _
                  have hEE := hEW.trans hE'
                  have c0 := b0 w' hEE
                  have c1' := b1 w' hEE
                  have ho2 := (htw3.ext hEE)
                  have hE2 := hE3.trans hEE
                  have hs2 := hE2.size
                  obtain ⟨ol, hol2⟩ : ∃ ol, o ++ [(⟨yl, yh⟩ : Rn)] = ol := ⟨_, rfl⟩
                  have hl2 : ol.length = o.length + 1 := by rw [← hol2]; simp
                  rw [hol2] at ho2 hok2 hob
                  rw [← hl2] at hsl ⊢
                  clear hK hN b0 b1 k1 hW hEW hE' hEE htw3 hE3 hl2 hol2 hol hnn hwo
                  go_wp2_with (at_builtin; refine wpList_append_apart rfl _ _ 22 rfl w.heap.size 26 i0 _ 2 16 Try.underlying22 hi0 hz0 hzz1 hzz2 rfl (by decide) _ ol.length _ rfl (own_ext ho2.b (ext_alloc _ _)) ⟨w'.heap.size, 0, none⟩ 1 1 [.int .i64 xl, .int .i64 xh] rfl rfl (news_row w' _ _ _) (by intro u hu; simp only [List.mem_cons, List.not_mem_nil, or_false] at hu; rcases hu with rfl | rfl <;> rfl) (by decide) (by simp [maxLen]; omega) (by omega) (by simp; omega) ?_; intro v' w4 ho4 hc4)
                  obtain ⟨A3, c3, rfl, htw4, hx4⟩ := TwoRr.push (x := ⟨xl, xh⟩) (ho2.swap.ext (ext_alloc _ _)) ho4 hc4
                  have hE4 := hx4.to_ext (hE2.trans (ext_alloc _ _)) (fun q o h => h.1)
                  have hob2 : ∀ r ∈ ol ++ [(⟨xl, xh⟩ : Rn)], Bdr r := fun r hr => by
                    rcases List.mem_append.1 hr with hr | hr
                    · exact hob r hr
                    · rcases List.mem_cons.1 hr with rfl | hr
                      · exact hbx
                      · cases hr
                  clear ho4 hc4 hx4 ho2
                  go_wp2
                  go_roundw
                  case rel => exact ⟨_, c1, il2, A3, c3, ol ++ [⟨xl, xh⟩], rfl, by simp, hok2, hib2, hob2, by simpa using hsl, htw4.swap, hE4⟩
                  case measure => exact hltl
        · have hil0 : il = [] := by cases il with | nil => rfl | cons a b => exact absurd (by simp) hpos
          subst hil0
          have hd := hok.done
          subst hd
          go_wp2
          go_ret
          exact ⟨A2, c2, rfl, htw.b, hE⟩
end Go.Proofs.Ytffapgemacbdjaa
