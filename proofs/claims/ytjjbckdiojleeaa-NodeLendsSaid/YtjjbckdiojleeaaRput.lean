/- Contracts of coppiceref12: Remove, Insert, Replace. No condition but that what comes in lies in memory. -/
import Derived.Test.YtjjbckdiojleeaaRwith
import Derived.Test.YtjjbckdiojleeaaNlet
namespace Go.Proofs.Ytjjbckdiojleeaa
set_option linter.unusedVariables false
open Go.RowKit Go.Proofs
theorem RowI.ge {B : Nat} {w : World} {A : Option Addr} {c : Nat} {l : List It} {ps : List (Value × Value)} (h : RowI B w A c l ps) {g : Nat} (hg : (Value.slice A l.length c).ownBlock = some g) : B ≤ g := by
  rcases h.2 with ⟨hv, _⟩ | ⟨g', cap, cur, hv, hb, hk, r⟩
  · rw [hv] at hg; cases hg
  · rw [hv] at hg
    injection hg with hg
    subst hg
    exact hb
/-- A row of the call's own, its keys where they lay when the call began. -/
structure RowS (B : Nat) (w0 w : World) (v : Value) (l : List It) : Prop where
  mk_ ::
  ex : ∃ A c ps, v = .slice A l.length c ∧ RowI B w A c l ps ∧ Each (fun v bs => ∃ A c, v = .slice A bs.length c ∧ Sl w0 A c bs) ps l
theorem RowS.nil (B : Nat) (w0 w : World) : RowS B w0 w (.slice none 0 0) [] := ⟨none, 0, [], rfl, RowI.nil _ _, trivial⟩
theorem RowS.ext {B : Nat} {w0 w w' : World} {v : Value} {l : List It} (h : RowS B w0 w v l) (he : Ext w w') : RowS B w0 w' v l := by
  obtain ⟨A, c, ps, h1, h2, h3⟩ := h.ex
  exact ⟨A, c, ps, h1, h2.ext he, h3⟩
theorem RowS.its {B : Nat} {w0 w : World} {A : Option Addr} {c n : Nat} {l : List It} (h : RowS B w0 w (.slice A n c) l) (he : Ext w0 w) (hl : l.length ≤ 2199023255552) : n = l.length ∧ Its w A c l := by
  obtain ⟨A', c', ps, h1, h2, h3⟩ := h.ex
  injection h1 with h1 h4 h5
  subst h1 h4 h5
  exact ⟨rfl, h2.its h3 (fun v bs ⟨A, c, e, hs⟩ => ⟨A, c, e, hs.ext he⟩) hl⟩
/-- Behind an append of one item. -/
theorem RowS.push {B : Nat} {w0 w2 : World} {l : List It} {ps : List (Value × Value)} (h3 : Each (fun v bs => ∃ A c, v = .slice A bs.length c ∧ Sl w0 A c bs) ps l) {x : It} {kA vA : Option Addr} {kc vc : Nat} {A' : Option Addr} {c' : Nat}
    (hr : RowI B w2 A' c' (l ++ [x]) (ps ++ [(.slice kA x.key.length kc, .slice vA x.val.length vc)])) (hk : Sl w0 kA kc x.key) (hv : Sl w0 vA vc x.val) : RowS B w0 w2 (.slice A' (l.length + 1) c') (l ++ [x]) :=
  ⟨A', c', _, by simp, hr, h3.append ⟨⟨kA, kc, rfl, hk⟩, ⟨vA, vc, rfl, hv⟩, trivial⟩⟩
theorem take_at {l : List It} {k : Nat} {x : It} (h : l[k]? = some x) : l.take (k + 1) = l.take k ++ [x] := by
  obtain ⟨hk, rfl⟩ := List.getElem?_eq_some_iff.1 h
  rw [List.take_succ_eq_append_getElem hk]
theorem erase_step {l : List It} {k n : Nat} {x : It} (h : l[k]? = some x) (hne : k ≠ n) : (l.take (k + 1)).eraseIdx n = (l.take k).eraseIdx n ++ [x] := by
  have hk : k < l.length := (List.getElem?_eq_some_iff.1 h).1
  have hl : (l.take k).length = k := by simp; omega
  rw [take_at h, List.eraseIdx_append]
  split
  · rfl
  · rw [hl, List.eraseIdx_of_length_le (l := [x]) (by simp only [List.length_cons, List.length_nil]; omega), List.eraseIdx_of_length_le (l := l.take k) (by omega)]
theorem erase_same {l : List It} {k : Nat} {x : It} (h : l[k]? = some x) : (l.take (k + 1)).eraseIdx k = (l.take k).eraseIdx k := by
  have hk : k < l.length := (List.getElem?_eq_some_iff.1 h).1
  have hl : (l.take k).length = k := by simp; omega
  rw [take_at h, List.eraseIdx_append, if_neg (by omega), hl, Nat.sub_self, List.eraseIdx_of_length_le (l := l.take k) (by omega)]
  simp
set_option maxRecDepth 100000 in
set_option maxHeartbeats 2000000 in
theorem rremove_any {v : Value} {p : Pg} {a : Int} {w : World} (hv : PgV w v p) :
    Calls Try.prog 46 #[v, .int .i64 a] w fun e w' => ∃ v', e = .returned (.tuple #[v', .bool (remB p a).2]) ∧ PgO w.heap.size w' v' (remB p a).1 ∧ Ext w w' := by
  obtain ⟨iA, ic, dA, dc, rfl, hi, hd⟩ := hv.ex
  have hil := hi.len
  by_cases hok : 0 ≤ a ∧ a < p.items.length
  rotate_left
  · have HQ := Lib.hid (show remB p a = (Pg.zero, false) by unfold remB; rw [if_neg hok])
    go_enter Try.func46, Try.ntmps46
    have hcs : a < 0 ∨ (0 ≤ a ∧ (p.items.length : Int) ≤ a) := by omega
    clear hok
    rcases hcs with h1 | ⟨h1, h2⟩
    all_goals
      go_wp2_with (refine wpList_store_box rfl 26 _ _ rfl (w.heap.size + 1) _ rfl rfl 26 _ (heap_alloc_at _ _ _ (by simp)) (by kernel_rfl) rfl (by simp [Value.oneCell']) (fun w4 hb hg => ?_))
      refine bodyPost_ret (results_cell_tmp' rfl _ _ _ _ _ _ _ rfl hb Try.underlying26 rfl (by kernel_rfl)) rfl ⟨_, by rw [HQ.out]; rfl, by rw [HQ.out]; exact PgO.zero _ _, ext_only ((ext_alloc _ _).trans (ext_alloc _ _)) hg (by omega)⟩
  obtain ⟨h0, h1⟩ := hok
  obtain ⟨n, rfl⟩ : ∃ n : Nat, a = n := ⟨a.toNat, by omega⟩
  have hn : n < p.items.length := by omega
  have HQ := Lib.hid (show remB p n = ({ p with items := p.items.eraseIdx n }, true) by unfold remB; rw [if_pos ⟨h0, h1⟩]; simp [List.eraseIdx_eq_take_drop_succ])
  obtain ⟨i0, hii, hz0, hz1, hz2⟩ := info_parts infoItem
  have hd1 : decide ((n : Int) < 0) = false := by simp
  have hd2 : decide (p.items.length ≤ n) = false := by simp; omega
  go_enter Try.func46, Try.ntmps46
  go_wp2
  have hP0 := heap_alloc2_old w (.cells #[.int .i64 p.kind, .int .i64 p.level, .slice iA p.items.length ic, .slice dA p.data.length dc, .int .i64 p.next] 26) (.cells #[.int .i64 0, .int .i64 0, .slice none 0 0, .slice none 0 0, .int .i64 0] 26)
  have hZ0 := heap_alloc2_new w (.cells #[.int .i64 p.kind, .int .i64 p.level, .slice iA p.items.length ic, .slice dA p.data.length dc, .int .i64 p.next] 26) (.cells #[.int .i64 0, .int .i64 0, .slice none 0 0, .slice none 0 0, .int .i64 0] 26)
  have hE0 := (ext_alloc w (.cells #[.int .i64 p.kind, .int .i64 p.level, .slice iA p.items.length ic, .slice dA p.data.length dc, .int .i64 p.next] 26)).trans (ext_alloc _ (.cells #[.int .i64 0, .int .i64 0, .slice none 0 0, .slice none 0 0, .int .i64 0] 26))
  go_loopw [6, 7] (fun u i wr => ∃ k : Nat, k ≤ p.items.length ∧ i = .int .i64 k ∧ RowS (w.heap.size + 2) w wr u ((p.items.take k).eraseIdx n) ∧ Ext w wr ∧ wr.heap[w.heap.size]? = some (.cells #[.int .i64 p.kind, .int .i64 p.level, .slice iA p.items.length ic, .slice dA p.data.length dc, .int .i64 p.next] 26) ∧ wr.heap[w.heap.size + 1]? = some (.cells #[.int .i64 0, .int .i64 0, .slice none 0 0, .slice none 0 0, .int .i64 0] 26)) (fun _ i _ => p.items.length - (intOf i).toNat)
  case atStart => exact ⟨0, Nat.zero_le _, rfl, by simpa using RowS.nil _ _ _, hE0, hP0, hZ0⟩
  case round =>
    clear hP0 hZ0 hE0
    obtain ⟨k, hk, rfl, hrs, hE, hP, hZ⟩ := hrel
    obtain ⟨rA, rc, ps, rfl, hrow, heach⟩ := hrs.ex
    have hp2 := cell_of_row wr w.heap.size 2 _ _ _ hP
    simp at hp2
    by_cases hlt : k < p.items.length
    rotate_left
    · obtain rfl : k = p.items.length := by omega
      clear hlt hk
      rw [List.take_length] at hrow heach hrs ⊢
      obtain ⟨_, hits⟩ := hrs.its hE (by have := List.length_eraseIdx_le p.items n; omega)
      have HP := Lib.hid hP
      have p0 := cell_of_row wr w.heap.size 0 _ _ _ hP
      have p1 := cell_of_row wr w.heap.size 1 _ _ _ hP
      have p3 := cell_of_row wr w.heap.size 3 _ _ _ hP
      have p4 := cell_of_row wr w.heap.size 4 _ _ _ hP
      simp at p0 p1 p3 p4
      clear hrow heach hrs hP
      generalize hdn : p.items.eraseIdx n = done at hits
      have HDN := Lib.hid hdn
      clear hdn
      go_wp2_with fail
      refine (rwith_any (hv.ext hE) hits rfl).mono ?_
      rintro e w1 ⟨v, rfl, hO, hE1⟩
      have hZ1 := hE1.blk hZ
      have hEE := hE.trans hE1
      have hws := (Array.getElem?_eq_some_iff.1 hZ).1
      have HO := Lib.hid (hO.mono (B' := w.heap.size + 2) (by omega))
      obtain ⟨oA, oc, oD, od, ops, rfl, _⟩ := hO.ex
      clear hO hE1 hits hZ p0 p1 hp2 p3 p4
      go_wp2_with (refine wpList_store_box rfl 26 _ _ rfl (w.heap.size + 1) _ rfl rfl 26 _ hZ1 (by kernel_rfl) rfl (by simp [Value.oneCell']) (fun w4 hb hg => ?_))
      refine bodyPost_ret (results_cell_tmp' rfl _ _ _ _ _ _ _ rfl hb Try.underlying26 rfl (by kernel_rfl)) rfl ⟨_, by rw [HQ.out, HDN.out]; rfl, ?_, ext_only hEE hg (by omega)⟩
      rw [HQ.out, HDN.out]
      exact (HO.out.only hg (by omega)).mono (by omega)
    · have hx : p.items[k]? = some p.items[k] := List.getElem?_eq_getElem hlt
      generalize p.items[k] = x at hx
      obtain ⟨b, o, rfl, hcx⟩ := hi.rd (by omega)
      have hcx0 := hcx _ x hx
      obtain ⟨kA, kc, vA, vc, x0, x1, x2, x3, xk, xv⟩ := hcx0
      replace x0 := hE.cell x0
      replace x1 := hE.cell x1
      replace x2 := hE.cell x2
      replace x3 := hE.cell x3
      have HX := Lib.hid hx
      have i1 : (k : Int) < p.items.length := by omega
      have hdl : ((p.items.take k).eraseIdx n).length ≤ k := by have := List.length_eraseIdx_le (p.items.take k) n; simp at this; omega
      by_cases hkn : k = n
      · have ck : ((k : Int) != n) = false := by simp [hkn]
        have HS := Lib.hid (show (p.items.take (k + 1)).eraseIdx n = (p.items.take k).eraseIdx n by subst hkn; exact erase_same hx)
        clear hkn hx hcx hk hlt
        generalize hdn : (p.items.take k).eraseIdx n = done at hrow heach hrs HS hdl
        clear hdn
        go_wp2
        go_roundw
        case rel => exact ⟨k + 1, by omega, by rw [Int.natCast_succ], by rw [HS.out]; exact hrs, hE, hP, hZ⟩
        case measure => simp [intOf]; omega
      · have ck : ((k : Int) != n) = true := by simp; omega
        have HS := Lib.hid (show (p.items.take (k + 1)).eraseIdx n = (p.items.take k).eraseIdx n ++ [x] from erase_step hx hkn)
        clear hkn hx hcx hk hlt hrs
        generalize hdn : (p.items.take k).eraseIdx n = done at hrow heach HS hdl
        clear hdn
        have hrow1 := RowI.ext hrow (ext_alloc wr (.cells #[.slice kA x.key.length kc, .slice vA x.val.length vc, .int .i64 x.ch, .int .i64 x.sz] 51))
        have hP1 := (ext_alloc wr (.cells #[.slice kA x.key.length kc, .slice vA x.val.length vc, .int .i64 x.ch, .int .i64 x.sz] 51)).blk hP
        have hZ1 := (ext_alloc wr (.cells #[.slice kA x.key.length kc, .slice vA x.val.length vc, .int .i64 x.ch, .int .i64 x.sz] 51)).blk hZ
        have hE1 := hE.trans (ext_alloc wr (.cells #[.slice kA x.key.length kc, .slice vA x.val.length vc, .int .i64 x.ch, .int .i64 x.sz] 51))
        have hpl := heach.length
        have hsw := (Array.getElem?_eq_some_iff.1 hZ).1
        clear hP hZ
        go_wp2_with (at_builtin; refine wpList_append_own _ rfl _ _ 23 rfl (w.heap.size + 2) 51 i0 _ 4 64 Try.underlying23 hii hz0 hz1 hz2 rfl (by decide) _ _ _ rfl hrow1 ⟨wr.heap.size, 0, none⟩ 1 1 [.slice kA x.key.length kc, .slice vA x.val.length vc, .int .i64 x.ch, .int .i64 x.sz] rfl rfl (news4 _ _ _ _ _ _ _) (by simp [Value.oneCell']) (by simp [maxLen]; omega) (by omega) (by simp; omega) ?_; intro v' w2 hown2 hgrow2 _; obtain ⟨A5, c5, rfl, hrow5⟩ := RowI.push hpl (x := x) (kv := .slice kA x.key.length kc) (vv := .slice vA x.val.length vc) rfl hown2; have hX2 := Exc.of_grown (D := fun q o => w.heap.size + 2 ≤ q) hgrow2 (fun g o hg ho => RowI.ge hrow1 hg); have hP2 := hX2.blk hP1 (by omega); have hZ2 := hX2.blk hZ1 (by omega))
        go_wp2
        go_roundw
        case rel => exact ⟨k + 1, by omega, by rw [Int.natCast_succ], by rw [HS.out]; exact RowS.push heach hrow5 xk xv, hX2.to_ext hE1 (fun k _ h => by omega), hP2, hZ2⟩
        case measure => simp [intOf]; omega
end Go.Proofs.Ytjjbckdiojleeaa
