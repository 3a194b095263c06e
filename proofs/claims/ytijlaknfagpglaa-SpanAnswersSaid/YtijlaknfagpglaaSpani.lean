/- The walk of Cover over two ranges that overlap, as the laws' fixed call has them. -/
import Derived.Test.YtijlaknfagpglaaSpanh
namespace Go.Proofs.Ytijlaknfagpglaa
open Go.RowKit Go.Proofs
theorem infoRg : (Try.prog.info? 32).map (fun i => (i.zero, i.size, i.bytes)) = some (some (.agg #[.slice none 0 0, .slice none 0 0, .bool false]), 3, 56) := by kernel_rfl
theorem cells_new (w : World) (l : List Value) (t : TypeId) : ∀ j u, l[j]? = some u → (w.alloc (.cells l.toArray t (0, 0))).cell? ((⟨w.heap.size, 0, none⟩ : Addr).add j) = some u := by
  intro j u hu
  have hadd : (⟨w.heap.size, 0, none⟩ : Addr).add j = ⟨w.heap.size, j, none⟩ := by unfold Addr.add; split <;> simp_all
  rw [hadd, cell_of_row _ _ _ _ _ _ (heap_alloc_new w _)]
  simpa using hu
theorem owned_nil (B : Nat) (e : TypeId) (size : Nat) (w : World) : w.ownsRow B e size (.slice none 0 0) 0 [] := ⟨by simp, .inl ⟨rfl, rfl⟩⟩
theorem ownsRow_ext {w w' : World} {B : Nat} {e : TypeId} {size : Nat} {v : Value} {n : Nat} {xs : List Value} (h : w.ownsRow B e size v n xs) (he : Ext w w') : w'.ownsRow B e size v n xs := by
  refine ⟨h.1, ?_⟩
  rcases h.2 with h0 | ⟨g, cap, cur, hv, hb, hg, r⟩
  · exact .inl h0
  · exact .inr ⟨g, cap, cur, hv, hb, he.blk hg, r⟩
/-- Rows of different element types lie in different blocks. -/
theorem ownBlock_ne {w : World} {B B' : Nat} {e e' : TypeId} {size size' n n' : Nat} {v u : Value} {xs ys : List Value} (h : w.ownsRow B e size v n xs) (k : w.ownsRow B' e' size' u n' ys) (hne : e ≠ e') : v.ownBlock = none ∨ v.ownBlock ≠ u.ownBlock := by
  rcases h.2 with ⟨rfl, _⟩ | ⟨g, cap, cur, rfl, _, hg, _⟩
  · exact .inl rfl
  · refine .inr fun he => ?_
    rcases k.2 with ⟨rfl, _⟩ | ⟨g', cap', cur', rfl, _, hg', _⟩
    · cases he
    · injection he with he
      simp only at he
      subst he
      rw [hg] at hg'
      injection hg' with hg'
      injection hg' with _ h2 _
      exact hne h2
theorem Own.row {w w' : World} {B B' : Nat} {e e' : TypeId} {size' n' c : Nat} {A : Option Addr} {bs : List UInt8} {u : Value} {ys : List Value} (h : Own e B w A c bs) (k : w.ownsRow B' e' size' u n' ys) (hne : e ≠ e') (hg : w.grownBy w' u.ownBlock) : Own e B w' A c bs :=
  World.ownsRow.kept h hg (ownBlock_ne h k hne)
/-- A range as cells. -/
def rgCells (A : Option Addr) (n c : Nat) (B : Option Addr) (m d : Nat) (o : Bool) : List Value := [.slice A n c, .slice B m d, .bool o]
theorem two_of_row {w : World} {B : Nat} {v : Value} {g cap n : Nat} {e : TypeId} {xs ys zs : List Value} {A1 : Option Addr} {n1 c1 : Nat} {B1 : Option Addr} {m1 d1 : Nat} {o1 : Bool} (h : w.ownsRow B e 3 v n xs) (hv : v = .slice (some ⟨g, 0, none⟩) n cap) (hx : xs = ys ++ rgCells A1 n1 c1 B1 m1 d1 o1 ++ zs) {o : Nat} (ho : ys.length = o) : Two w g o A1 n1 c1 B1 m1 d1 o1 := by
  subst hv
  subst hx
  subst ho
  have hl := h.1
  have key : ∀ j u, (rgCells A1 n1 c1 B1 m1 d1 o1)[j]? = some u → w.cell? ⟨g, ys.length + j, none⟩ = some u := fun j u hu => by
    have hj : j < 3 := (List.getElem?_eq_some_iff.1 hu).1
    rw [World.ownsRow.cellAt h (ys.length + j) (by rw [← hl]; simp [rgCells]; omega)]
    rw [List.append_assoc, List.getElem?_append_right (Nat.le_add_right _ _), Nat.add_sub_cancel_left, List.getElem?_append_left (by simpa [rgCells] using hj)]
    exact hu
  exact ⟨key 0 _ rfl, key 1 _ rfl, key 2 _ rfl⟩
set_option maxHeartbeats 4000000 in
theorem cover2_any {lA hA mA jA : Option Addr} {lc hc mc jc g cap : Nat} {lo hi mo ji : List UInt8} {w : World} (hlo : Sl w lA lc lo) (hhi : Sl w hA hc hi) (hmo : Sl w mA mc mo) (hji : Sl w jA jc ji)
    (h1 : Two w g 0 lA lo.length lc hA hi.length hc false) (h2 : Two w g 3 mA mo.length mc jA ji.length jc false) (hle : 0 ≤ cmpB mo lo) (hle2 : 0 ≤ cmpB hi mo) (hlt : cmpB hi ji < 0)
    (hf1 : formB ⟨lo, hi, false⟩ = some ⟨lo, hi, false⟩) (hf2 : formB ⟨mo, ji, false⟩ = some ⟨mo, ji, false⟩) :
    Calls Try.prog 28 #[.slice (some ⟨g, 0, none⟩) 2 cap] w fun e w' => ∃ g' cap' A c B d, e = .returned (.slice (some ⟨g', 0, none⟩) 1 cap') ∧ Two w' g' 0 A lo.length c B ji.length d false ∧ Sl w' A c lo ∧ Sl w' B d ji ∧ Ext w w' := by
  obtain ⟨i0, hti, hz0, hz1, hz2⟩ := info_parts infoRg
  have F1 := Lib.hid hf1
  have F2 := Lib.hid hf2
  clear hf1 hf2
  go_enter Try.func28, Try.ntmps28
  go_wp2
  go_loopw [3, 15] (fun v i wr => Ext w wr ∧ ((i = .int .i64 0 ∧ v = .slice none 0 0) ∨
      (i = .int .i64 1 ∧ ∃ A c B d, wr.ownsRow w.heap.size 32 3 v 1 (rgCells A lo.length c B hi.length d false) ∧ Own 5 w.heap.size wr A c lo ∧ Own 5 w.heap.size wr B d hi) ∨
      (i = .int .i64 2 ∧ ∃ A c B d A2 c2 B2 d2, wr.ownsRow w.heap.size 32 3 v 2 (rgCells A lo.length c B hi.length d false ++ rgCells A2 mo.length c2 B2 ji.length d2 false) ∧ Own 5 w.heap.size wr A c lo ∧ Own 5 w.heap.size wr B d hi ∧ Own 5 w.heap.size wr A2 c2 mo ∧ Own 5 w.heap.size wr B2 d2 ji)))
      (fun _ i _ => 2 - (intOf i).toNat)
  case atStart => exact ⟨Below.refl _ _, .inl ⟨rfl, rfl⟩⟩
  case round =>
    obtain ⟨hE, hr⟩ := hrel
    rcases hr with ⟨rfl, rfl⟩ | ⟨rfl, A, c, B, d, ho, hA, hB⟩ | ⟨rfl, A, c, B, d, A2, c2, B2, d2, ho, hA, hB, hA2, hB2⟩
    · have ho := owned_nil w.heap.size 32 3 wr
      have h1e := h1.ext hE
      have k1 := h1.ext hE
      have a0 := k1.c0
      have a1 := k1.c1
      have a2 := k1.c2
      simp at a0 a1 a2
      go_wp2_with (refine wpList_store_box rfl 32 _ _ rfl wr.heap.size _ rfl rfl 32 _ (heap_alloc_new _ _) (by kernel_rfl) rfl (by simp [Value.oneCell']) ?_; intro w2 hb2 hg2; have hE2 := ext_only (ext_alloc wr _) hg2 (Nat.le_refl _); have f0 := cell_of_row w2 wr.heap.size 0 _ _ _ hb2; have f1 := cell_of_row w2 wr.heap.size 1 _ _ _ hb2; have f2 := cell_of_row w2 wr.heap.size 2 _ _ _ hb2; simp at f0 f1 f2)
      have hEa := hE.trans hE2
      refine (form_any (hlo.ext hEa) (hhi.ext hEa)).mono ?_
      rintro e w3 ⟨A9, c9, B9, d9, r, hr, rfl, hR, hE3⟩
      rw [F1.out] at hr
      obtain rfl : r = ⟨lo, hi, false⟩ := hr
      rw [F1.out]
      simp only [Option.isSome_some]
      have hEb := hEa.trans hE3
      have hE4s := hE2.trans hE3
      have oA := (hR.1.sl hlo.len)
      have oB := (hR.2.1.sl hhi.len)
      dsimp only at oA oB
      go_wp2_with (first | (refine wpList_store_box rfl 32 _ _ rfl w3.heap.size _ rfl rfl 32 _ (heap_alloc_new _ _) (by kernel_rfl) rfl (by simp [Value.oneCell']) ?_; intro w4 hb4 hg4; have hE4 := ext_only (ext_alloc w3 _) hg4 (Nat.le_refl _); have ho4 := ownsRow_ext ho (hE4s.trans hE4); have h0 := cell_of_row w4 w3.heap.size 0 _ _ _ hb4; have h1 := cell_of_row w4 w3.heap.size 1 _ _ _ hb4; have h2 := cell_of_row w4 w3.heap.size 2 _ _ _ hb4; simp at h0 h1 h2) | (at_builtin; refine wpList_append_own _ rfl _ _ 37 rfl w.heap.size 32 i0 (.agg #[.slice none 0 0, .slice none 0 0, .bool false]) 3 56 Try.underlying37 hti hz0 hz1 hz2 rfl (by decide) _ _ _ rfl (World.ownsRow.alloc ho4 _) ⟨w4.heap.size, 0, none⟩ 1 1 (rgCells A9 lo.length c9 B9 hi.length d9 false) rfl rfl (cells_new _ _ _) (by simp [rgCells, Value.oneCell']) (by simp [maxLen]) (by omega) (by have := (hEb.trans hE4).size; simp; omega) ?_; intro v' w5 hown5 hgrow5 _))
      have hEc := hEb.trans hE4
      have hEd := ext_append hEc ho4 hgrow5
      have qA := (((hR.1.mono hEa.size).ext hE4).ext (ext_alloc w4 _)).row (World.ownsRow.alloc ho4 _) (by decide) hgrow5
      have qB := (((hR.2.1.mono hEa.size).ext hE4).ext (ext_alloc w4 _)).row (World.ownsRow.alloc ho4 _) (by decide) hgrow5
      clear hgrow5
      go_wp2
      go_roundw
      case rel => exact ⟨hEd, .inr (.inl ⟨by go_num, A9, c9, B9, d9, hown5, qA, qB⟩)⟩
      case measure => simp [intOf]
    · have h2e := h2.ext hE
      have k1 := h2.ext hE
      have a0 := k1.c0
      have a1 := k1.c1
      have a2 := k1.c2
      simp at a0 a1 a2
      go_wp2_with (refine wpList_store_box rfl 32 _ _ rfl wr.heap.size _ rfl rfl 32 _ (heap_alloc_new _ _) (by kernel_rfl) rfl (by simp [Value.oneCell']) ?_; intro w2 hb2 hg2; have hE2 := ext_only (ext_alloc wr _) hg2 (Nat.le_refl _); have f0 := cell_of_row w2 wr.heap.size 0 _ _ _ hb2; have f1 := cell_of_row w2 wr.heap.size 1 _ _ _ hb2; have f2 := cell_of_row w2 wr.heap.size 2 _ _ _ hb2; simp at f0 f1 f2)
      have hEa := hE.trans hE2
      refine (form_any (hmo.ext hEa) (hji.ext hEa)).mono ?_
      rintro e w3 ⟨A9, c9, B9, d9, r, hr, rfl, hR, hE3⟩
      rw [F2.out] at hr
      obtain rfl : r = ⟨mo, ji, false⟩ := hr
      rw [F2.out]
      simp only [Option.isSome_some]
      have hEb := hEa.trans hE3
      have hE4s := hE2.trans hE3
      have oA := (hR.1.sl hmo.len)
      have oB := (hR.2.1.sl hji.len)
      dsimp only at oA oB
      go_wp2_with (first | (refine wpList_store_box rfl 32 _ _ rfl w3.heap.size _ rfl rfl 32 _ (heap_alloc_new _ _) (by kernel_rfl) rfl (by simp [Value.oneCell']) ?_; intro w4 hb4 hg4; have hE4 := ext_only (ext_alloc w3 _) hg4 (Nat.le_refl _); have ho4 := ownsRow_ext ho (hE4s.trans hE4); have h0 := cell_of_row w4 w3.heap.size 0 _ _ _ hb4; have h1 := cell_of_row w4 w3.heap.size 1 _ _ _ hb4; have h2 := cell_of_row w4 w3.heap.size 2 _ _ _ hb4; simp at h0 h1 h2) | (at_builtin; refine wpList_append_own _ rfl _ _ 37 rfl w.heap.size 32 i0 (.agg #[.slice none 0 0, .slice none 0 0, .bool false]) 3 56 Try.underlying37 hti hz0 hz1 hz2 rfl (by decide) _ _ _ rfl (World.ownsRow.alloc ho4 _) ⟨w4.heap.size, 0, none⟩ 1 1 (rgCells A9 mo.length c9 B9 ji.length d9 false) rfl rfl (cells_new _ _ _) (by simp [rgCells, Value.oneCell']) (by simp [maxLen]) (by omega) (by have := (hEb.trans hE4).size; simp; omega) ?_; intro v' w5 hown5 hgrow5 _))
      have hEc := hEb.trans hE4
      have hEd := ext_append hEc ho4 hgrow5
      have qA := (((hR.1.mono hEa.size).ext hE4).ext (ext_alloc w4 _)).row (World.ownsRow.alloc ho4 _) (by decide) hgrow5
      have qB := (((hR.2.1.mono hEa.size).ext hE4).ext (ext_alloc w4 _)).row (World.ownsRow.alloc ho4 _) (by decide) hgrow5
      have qA0 := (((hA.ext hE4s).ext hE4).ext (ext_alloc w4 _)).row (World.ownsRow.alloc ho4 _) (by decide) hgrow5
      have qB0 := (((hB.ext hE4s).ext hE4).ext (ext_alloc w4 _)).row (World.ownsRow.alloc ho4 _) (by decide) hgrow5
      clear hgrow5
      go_wp2
      go_roundw
      case rel => exact ⟨hEd, .inr (.inr ⟨by go_num, A, c, B, d, A9, c9, B9, d9, hown5, qA0, qB0, qA, qB⟩)⟩
      case measure => simp [intOf]
    · obtain ⟨gF, capF, hvF, hgF, _⟩ := World.ownsRow.form ho (by omega)
      subst hvF
      have t1 : Two wr gF 0 A lo.length c B hi.length d false := two_of_row (ys := []) (zs := rgCells A2 mo.length c2 B2 ji.length d2 false) ho rfl rfl rfl
      have t2 : Two wr gF 3 A2 mo.length c2 B2 ji.length d2 false := two_of_row (ys := rgCells A lo.length c B hi.length d false) (zs := []) ho rfl (by simp) rfl
      go_wp2_with fail
      have sA := hA.sl hlo.len
      have sB := hB.sl hhi.len
      have sA2 := hA2.sl hmo.len
      have sB2 := hB2.sl hji.len
      refine (stable2_any sA sA2 t1 t2 hle).mono ?_
      rintro e w6 ⟨rfl, hE6⟩
      have hE7 := hE.trans hE6
      replace t1 := t1.ext hE6
      replace t2 := t2.ext hE6
      replace sA := sA.ext hE6
      replace sB := sB.ext hE6
      replace sA2 := sA2.ext hE6
      replace sB2 := sB2.ext hE6
      clear ho hA hB hA2 hB2 hE hE6 hlo hhi hmo hji h1 h2
      go_wp2
      go_loopw [8, 34] (fun v i wr => Ext w6 wr ∧ ((i = .int .i64 0 ∧ v = .slice none 0 0) ∨
        (i = .int .i64 1 ∧ wr.ownsRow w6.heap.size 32 3 v 1 (rgCells A lo.length c B hi.length d false)) ∨
        (i = .int .i64 2 ∧ wr.ownsRow w6.heap.size 32 3 v 1 (rgCells A lo.length c B2 ji.length d2 false)))) (fun _ i _ => 2 - (intOf i).toNat)
      case atStart => exact ⟨Below.refl _ _, .inl ⟨rfl, rfl⟩⟩
      case round =>
        obtain ⟨hE8, hr⟩ := hrel
        rcases hr with ⟨rfl, rfl⟩ | ⟨rfl, ho⟩ | ⟨rfl, ho⟩
        · have u1 := t1.ext hE8
          have a0 := u1.c0
          have a1 := u1.c1
          have a2 := u1.c2
          simp at a0 a1 a2
          go_wp2_with (refine wpList_store_box rfl 32 _ _ rfl wr.heap.size _ rfl rfl 32 _ (heap_alloc_new _ _) (by kernel_rfl) rfl (by simp [Value.oneCell']) ?_; intro w9 hb9 hg9; have hE9 := ext_only (ext_alloc wr _) hg9 (Nat.le_refl _))
          have ho := owned_nil w6.heap.size 32 3 wr
          refine wp_region_mild 20 (fun _ => none) (by kernel_rfl) (by kernel_rfl) (fun W N hW hN => ?_)
          simp only [List.take_succ_cons, List.take_zero]
          repeat (first | (apply wpM_one; (case hg => rfl); (case hsp => rfl); (case hv => (intro w' hw'; go_simp; exact rfl)); simp only [Act.put, List.setIfInBounds_toArray, List.set_cons_succ, List.set_cons_zero]; try simp only [wrap_zero]) | (apply wpM_oneG; (case hw => rfl); (case hsp => rfl); (case hv => (intro w' hw'; go_simp; exact rfl)); simp only [Act.put, List.setIfInBounds_toArray, List.set_cons_succ, List.set_cons_zero]; try simp only [wrap_zero]) | (apply wpM_pass; (case hw => rfl); simp only [Act.put, List.setIfInBounds_toArray, List.set_cons_succ, List.set_cons_zero]; try simp only [wrap_zero]))
          apply wpM_nil
          apply hN
          intro w10 hE10 hK
          clear hK hN
          have hb10 := (hW.trans hE10).blk hb9
          have hE11 := (hE9.trans hW).trans hE10
          have ho4 := ownsRow_ext ho hE11
          have hEc := hE8.trans hE11
          have h0 := cell_of_row w10 wr.heap.size 0 _ _ _ hb10
          have h1 := cell_of_row w10 wr.heap.size 1 _ _ _ hb10
          have h2 := cell_of_row w10 wr.heap.size 2 _ _ _ hb10
          simp at h0 h1 h2
          go_wp2_with (at_builtin; refine wpList_append_own _ rfl _ _ 37 rfl w6.heap.size 32 i0 (.agg #[.slice none 0 0, .slice none 0 0, .bool false]) 3 56 Try.underlying37 hti hz0 hz1 hz2 rfl (by decide) _ _ _ rfl (World.ownsRow.alloc ho4 _) ⟨w10.heap.size, 0, none⟩ 1 1 (rgCells A lo.length c B hi.length d false) rfl rfl (cells_new _ _ _) (by simp [rgCells, Value.oneCell']) (by simp [maxLen]) (by omega) (by have := hEc.size; simp; omega) ?_; intro v' w12 hown5 hgrow5 _)
          have hEd := ext_append hEc ho4 hgrow5
          clear hgrow5
          go_wp2
          go_roundw
          case rel => exact ⟨hEd, .inr (.inl ⟨by go_num, hown5⟩)⟩
          case measure => simp [intOf]
        · obtain ⟨go, capo, hvo, hgo, _⟩ := World.ownsRow.form ho (by omega)
          subst hvo
          have u : Two wr go 0 A lo.length c B hi.length d false := two_of_row (ys := []) (zs := []) ho rfl (by simp) rfl
          have u2 := t2.ext hE8
          have a0 := u2.c0
          have a1 := u2.c1
          have a2 := u2.c2
          simp at a0 a1 a2
          go_wp2_with (refine wpList_store_box rfl 32 _ _ rfl wr.heap.size _ rfl rfl 32 _ (heap_alloc_new _ _) (by kernel_rfl) rfl (by simp [Value.oneCell']) ?_; intro w9 hb9 hg9; have hE9 := ext_only (ext_alloc wr _) hg9 (Nat.le_refl _))
          have u9 := u.ext hE9
          have p1 := u9.c1
          have p2 := u9.c2
          simp at p1 p2
          have h0 := cell_of_row w9 wr.heap.size 0 _ _ _ hb9
          have h1 := cell_of_row w9 wr.heap.size 1 _ _ _ hb9
          have h2 := cell_of_row w9 wr.heap.size 2 _ _ _ hb9
          simp at h0 h1 h2
          refine wp_region_mild 20 (fun i => match i with
            | 17 => some fun _ v w' => v = .int .i64 (cmpB hi mo)
            | _ => none) (by kernel_rfl) (by kernel_rfl) (fun W N hW hN => ?_)
          have hEW := (hE8.trans hE9).trans hW
          have e1 : ∀ w', Ext W w' → w'.cell? ⟨go, 1, none⟩ = some (.slice B hi.length d) := fun w' h => (hW.trans h).cell p1
          have e2 : ∀ w', Ext W w' → w'.cell? ⟨go, 2, none⟩ = some (.bool false) := fun w' h => (hW.trans h).cell p2
          have e3 : ∀ w', Ext W w' → w'.cell? ⟨wr.heap.size, 0, none⟩ = some (.slice A2 mo.length c2) := fun w' h => (hW.trans h).cell h0
          simp only [List.take_succ_cons, List.take_zero]
          repeat (first | (apply wpM_one; (case hg => rfl); (case hsp => rfl); (case hv => (intro w' hw'; go_simp; exact rfl)); simp only [Act.put, List.setIfInBounds_toArray, List.set_cons_succ, List.set_cons_zero]; try simp only [wrap_zero]) | (apply wpM_oneG; (case hw => rfl); (case hsp => rfl); (case hv => (intro w' hw'; go_simp; exact rfl)); simp only [Act.put, List.setIfInBounds_toArray, List.set_cons_succ, List.set_cons_zero]; try simp only [wrap_zero]) | (apply wpM_pass; (case hw => rfl); simp only [Act.put, List.setIfInBounds_toArray, List.set_cons_succ, List.set_cons_zero]; try simp only [wrap_zero]))
          refine wpM_newG _ rfl rfl (fun V v => Stable.pure) (fun V V' h => rfl) (fun w' hw' hK => ?_) (fun v hv => ?_)
          · unfold mildAt; go_simp; rw [mildUpon_enter]
            refine ⟨Below.refl _ _, (bcompare_any (sB.ext (hEW.trans hw')) (sA2.ext (hEW.trans hw'))).mono ?_⟩
            rintro e w2 ⟨rfl, hE2⟩
            exact ⟨_, rfl, hE2, rfl⟩
          obtain ⟨_, _, _, rfl⟩ := hv
          simp only [Act.put, List.setIfInBounds_toArray, List.set_cons_succ, List.set_cons_zero]
          repeat (first | (apply wpM_one; (case hg => rfl); (case hsp => rfl); (case hv => (intro w' hw'; go_simp; exact rfl)); simp only [Act.put, List.setIfInBounds_toArray, List.set_cons_succ, List.set_cons_zero]; try simp only [wrap_zero]) | (apply wpM_oneG; (case hw => rfl); (case hsp => rfl); (case hv => (intro w' hw'; go_simp; exact rfl)); simp only [Act.put, List.setIfInBounds_toArray, List.set_cons_succ, List.set_cons_zero]; try simp only [wrap_zero]) | (apply wpM_pass; (case hw => rfl); simp only [Act.put, List.setIfInBounds_toArray, List.set_cons_succ, List.set_cons_zero]; try simp only [wrap_zero]))
          apply wpM_nil
          apply hN
          intro w10 hE10 hK
          clear hK hN e1 e2 e3
          have hE12 := hW.trans hE10
          have q1 := hE12.cell p1
          have q2 := hE12.cell p2
          have r0 := hE12.cell h0
          have r1 := hE12.cell h1
          have r2 := hE12.cell h2
          have ho2 := ownsRow_ext ho (hE9.trans hE12)
          have hE13 := hEW.trans hE10
          clear hE10 hEW hW
          clear p1 p2 h0 h1 h2 u9
          go_wp2
          refine wp_region_mild 14 (fun i => match i with
            | 12 => some fun _ v w' => v = .int .i64 (cmpB hi ji)
            | _ => none) (by kernel_rfl) (by kernel_rfl) (fun W N hW hN => ?_)
          have hEW := hE13.trans hW
          have e1 : ∀ w', Ext W w' → w'.cell? ⟨go, 1, none⟩ = some (.slice B hi.length d) := fun w' h => (hW.trans h).cell q1
          have e2 : ∀ w', Ext W w' → w'.cell? ⟨go, 2, none⟩ = some (.bool false) := fun w' h => (hW.trans h).cell q2
          have e3 : ∀ w', Ext W w' → w'.cell? ⟨wr.heap.size, 1, none⟩ = some (.slice B2 ji.length d2) := fun w' h => (hW.trans h).cell r1
          simp only [List.take_succ_cons, List.take_zero]
          repeat (first | (apply wpM_one; (case hg => rfl); (case hsp => rfl); (case hv => (intro w' hw'; go_simp; exact rfl)); simp only [Act.put, List.setIfInBounds_toArray, List.set_cons_succ, List.set_cons_zero]; try simp only [wrap_zero]) | (apply wpM_oneG; (case hw => rfl); (case hsp => rfl); (case hv => (intro w' hw'; go_simp; exact rfl)); simp only [Act.put, List.setIfInBounds_toArray, List.set_cons_succ, List.set_cons_zero]; try simp only [wrap_zero]) | (apply wpM_pass; (case hw => rfl); simp only [Act.put, List.setIfInBounds_toArray, List.set_cons_succ, List.set_cons_zero]; try simp only [wrap_zero]))
          refine wpM_newG _ rfl rfl (fun V v => Stable.pure) (fun V V' h => rfl) (fun w' hw' hK => ?_) (fun v hv => ?_)
          · unfold mildAt; go_simp; rw [mildUpon_enter]
            refine ⟨Below.refl _ _, (bcompare_any (sB.ext (hEW.trans hw')) (sB2.ext (hEW.trans hw'))).mono ?_⟩
            rintro e w2 ⟨rfl, hE2⟩
            exact ⟨_, rfl, hE2, rfl⟩
          obtain ⟨_, _, _, rfl⟩ := hv
          simp only [Act.put, List.setIfInBounds_toArray, List.set_cons_succ, List.set_cons_zero]
          repeat (first | (apply wpM_one; (case hg => rfl); (case hsp => rfl); (case hv => (intro w' hw'; go_simp; exact rfl)); simp only [Act.put, List.setIfInBounds_toArray, List.set_cons_succ, List.set_cons_zero]; try simp only [wrap_zero]) | (apply wpM_oneG; (case hw => rfl); (case hsp => rfl); (case hv => (intro w' hw'; go_simp; exact rfl)); simp only [Act.put, List.setIfInBounds_toArray, List.set_cons_succ, List.set_cons_zero]; try simp only [wrap_zero]) | (apply wpM_pass; (case hw => rfl); simp only [Act.put, List.setIfInBounds_toArray, List.set_cons_succ, List.set_cons_zero]; try simp only [wrap_zero]))
          apply wpM_nil
          apply hN
          intro w11 hE14 hK
          clear hK hN e1 e2 e3
          have hE15 := hW.trans hE14
          have s1 := hE15.cell q1
          have x1 := hE15.cell r1
          have ho3 := ownsRow_ext ho2 hE15
          have hfr := World.ownsRow.frozenAt ho3 1
          have hst := (World.ownsRow.stored ho3 1 (.slice B2 ji.length d2)).1
          have hEn := ext_store (p := ⟨go, 1, none⟩) (hEW.trans hE14) hgo (.slice B2 ji.length d2)
          clear q1 q2 r0 r1 r2
          go_wp2
          go_roundw
          case rel => exact ⟨hEn, .inr (.inr ⟨by go_num, hst⟩)⟩
          case measure => simp [intOf]
        · obtain ⟨go, capo, hvo, hgo, _⟩ := World.ownsRow.form ho (by omega)
          subst hvo
          have u : Two wr go 0 A lo.length c B2 ji.length d2 false := two_of_row (ys := []) (zs := []) ho rfl (by simp) rfl
          go_wp2
          go_ret
          exact ⟨go, capo, A, c, B2, d2, rfl, u, sA.ext hE8, sB2.ext hE8, hE7.trans hE8⟩
end Go.Proofs.Ytijlaknfagpglaa
