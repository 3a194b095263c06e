/- Contracts of coppicelaw12.gives, takes, all, same. No condition but that what comes in lies in memory. -/
import Derived.Test.YtjjbckdiojleeaaLentw
import Derived.Test.YtjjbckdiojleeaaRjoin
namespace Go.Proofs.Ytjjbckdiojleeaa
set_option linter.unusedVariables false
open Go.RowKit Go.Proofs
set_option maxHeartbeats 1000000 in
theorem gives_true {p q : Pg} {iA dA jA eA sA : Option Addr} {ic dc jc ec sc sn : Nat} {w : World} :
    Calls Try.prog 34 #[.agg #[.int .i64 p.kind, .int .i64 p.level, .slice iA p.items.length ic, .slice dA p.data.length dc, .int .i64 p.next, .int .i64 q.kind, .int .i64 q.level, .slice jA q.items.length jc, .slice eA q.data.length ec, .int .i64 q.next, .slice sA sn sc, .bool true]] w fun e w' => e = .returned (.agg #[.int .i64 p.kind, .int .i64 p.level, .slice iA p.items.length ic, .slice dA p.data.length dc, .int .i64 p.next]) ∧ Ext w w' := by
  have hE := (ext_alloc w (.cells #[.int .i64 p.kind, .int .i64 p.level, .slice iA p.items.length ic, .slice dA p.data.length dc, .int .i64 p.next, .int .i64 q.kind, .int .i64 q.level, .slice jA q.items.length jc, .slice eA q.data.length ec, .int .i64 q.next, .slice sA sn sc, .bool true] 40)).trans (ext_alloc _ (.cells #[.int .i64 0, .int .i64 0, .slice none 0 0, .slice none 0 0, .int .i64 0] 26))
  have hT := heap_alloc2_old w (.cells #[.int .i64 p.kind, .int .i64 p.level, .slice iA p.items.length ic, .slice dA p.data.length dc, .int .i64 p.next, .int .i64 q.kind, .int .i64 q.level, .slice jA q.items.length jc, .slice eA q.data.length ec, .int .i64 q.next, .slice sA sn sc, .bool true] 40) (.cells #[.int .i64 0, .int .i64 0, .slice none 0 0, .slice none 0 0, .int .i64 0] 26)
  have hZ := heap_alloc2_new w (.cells #[.int .i64 p.kind, .int .i64 p.level, .slice iA p.items.length ic, .slice dA p.data.length dc, .int .i64 p.next, .int .i64 q.kind, .int .i64 q.level, .slice jA q.items.length jc, .slice eA q.data.length ec, .int .i64 q.next, .slice sA sn sc, .bool true] 40) (.cells #[.int .i64 0, .int .i64 0, .slice none 0 0, .slice none 0 0, .int .i64 0] 26)
  go_enter Try.func34, Try.ntmps34
  go_wp2_with (refine wpList_store_at 26 (.tmp 2) (.tmp 6) (w.heap.size + 1) _ rfl rfl 26 _ hZ (by kernel_rfl) rfl (by simp [Value.oneCell']) (fun w4 hb hg => ?_))
  exact bodyPost_ret (results_cell_row rfl _ _ _ _ _ _ _ rfl hb Try.underlying26 rfl (by kernel_rfl)) rfl ⟨rfl, ext_only hE hg (by omega)⟩
set_option maxHeartbeats 1000000 in
theorem gives_false {p q : Pg} {iA dA jA eA sA : Option Addr} {ic dc jc ec sc sn : Nat} {w : World} :
    Calls Try.prog 34 #[.agg #[.int .i64 p.kind, .int .i64 p.level, .slice iA p.items.length ic, .slice dA p.data.length dc, .int .i64 p.next, .int .i64 q.kind, .int .i64 q.level, .slice jA q.items.length jc, .slice eA q.data.length ec, .int .i64 q.next, .slice sA sn sc, .bool false]] w fun e w' => e = .returned (.agg #[.int .i64 q.kind, .int .i64 q.level, .slice jA q.items.length jc, .slice eA q.data.length ec, .int .i64 q.next]) ∧ Ext w w' := by
  have hE := (ext_alloc w (.cells #[.int .i64 p.kind, .int .i64 p.level, .slice iA p.items.length ic, .slice dA p.data.length dc, .int .i64 p.next, .int .i64 q.kind, .int .i64 q.level, .slice jA q.items.length jc, .slice eA q.data.length ec, .int .i64 q.next, .slice sA sn sc, .bool false] 40)).trans (ext_alloc _ (.cells #[.int .i64 0, .int .i64 0, .slice none 0 0, .slice none 0 0, .int .i64 0] 26))
  have hT := heap_alloc2_old w (.cells #[.int .i64 p.kind, .int .i64 p.level, .slice iA p.items.length ic, .slice dA p.data.length dc, .int .i64 p.next, .int .i64 q.kind, .int .i64 q.level, .slice jA q.items.length jc, .slice eA q.data.length ec, .int .i64 q.next, .slice sA sn sc, .bool false] 40) (.cells #[.int .i64 0, .int .i64 0, .slice none 0 0, .slice none 0 0, .int .i64 0] 26)
  have hZ := heap_alloc2_new w (.cells #[.int .i64 p.kind, .int .i64 p.level, .slice iA p.items.length ic, .slice dA p.data.length dc, .int .i64 p.next, .int .i64 q.kind, .int .i64 q.level, .slice jA q.items.length jc, .slice eA q.data.length ec, .int .i64 q.next, .slice sA sn sc, .bool false] 40) (.cells #[.int .i64 0, .int .i64 0, .slice none 0 0, .slice none 0 0, .int .i64 0] 26)
  go_enter Try.func34, Try.ntmps34
  go_wp2_with (refine wpList_store_at 26 (.tmp 2) (.tmp 8) (w.heap.size + 1) _ rfl rfl 26 _ hZ (by kernel_rfl) rfl (by simp [Value.oneCell']) (fun w4 hb hg => ?_))
  exact bodyPost_ret (results_cell_row rfl _ _ _ _ _ _ _ rfl hb Try.underlying26 rfl (by kernel_rfl)) rfl ⟨rfl, ext_only hE hg (by omega)⟩
set_option maxHeartbeats 1000000 in
theorem takes_true {p q : Pg} {iA dA jA eA sA : Option Addr} {ic dc jc ec sc sn : Nat} {w : World} :
    Calls Try.prog 35 #[.agg #[.int .i64 p.kind, .int .i64 p.level, .slice iA p.items.length ic, .slice dA p.data.length dc, .int .i64 p.next, .int .i64 q.kind, .int .i64 q.level, .slice jA q.items.length jc, .slice eA q.data.length ec, .int .i64 q.next, .slice sA sn sc, .bool true]] w fun e w' => e = .returned (.agg #[.int .i64 q.kind, .int .i64 q.level, .slice jA q.items.length jc, .slice eA q.data.length ec, .int .i64 q.next]) ∧ Ext w w' := by
  have hE := (ext_alloc w (.cells #[.int .i64 p.kind, .int .i64 p.level, .slice iA p.items.length ic, .slice dA p.data.length dc, .int .i64 p.next, .int .i64 q.kind, .int .i64 q.level, .slice jA q.items.length jc, .slice eA q.data.length ec, .int .i64 q.next, .slice sA sn sc, .bool true] 40)).trans (ext_alloc _ (.cells #[.int .i64 0, .int .i64 0, .slice none 0 0, .slice none 0 0, .int .i64 0] 26))
  have hT := heap_alloc2_old w (.cells #[.int .i64 p.kind, .int .i64 p.level, .slice iA p.items.length ic, .slice dA p.data.length dc, .int .i64 p.next, .int .i64 q.kind, .int .i64 q.level, .slice jA q.items.length jc, .slice eA q.data.length ec, .int .i64 q.next, .slice sA sn sc, .bool true] 40) (.cells #[.int .i64 0, .int .i64 0, .slice none 0 0, .slice none 0 0, .int .i64 0] 26)
  have hZ := heap_alloc2_new w (.cells #[.int .i64 p.kind, .int .i64 p.level, .slice iA p.items.length ic, .slice dA p.data.length dc, .int .i64 p.next, .int .i64 q.kind, .int .i64 q.level, .slice jA q.items.length jc, .slice eA q.data.length ec, .int .i64 q.next, .slice sA sn sc, .bool true] 40) (.cells #[.int .i64 0, .int .i64 0, .slice none 0 0, .slice none 0 0, .int .i64 0] 26)
  go_enter Try.func35, Try.ntmps35
  go_wp2_with (refine wpList_store_at 26 (.tmp 2) (.tmp 6) (w.heap.size + 1) _ rfl rfl 26 _ hZ (by kernel_rfl) rfl (by simp [Value.oneCell']) (fun w4 hb hg => ?_))
  exact bodyPost_ret (results_cell_row rfl _ _ _ _ _ _ _ rfl hb Try.underlying26 rfl (by kernel_rfl)) rfl ⟨rfl, ext_only hE hg (by omega)⟩
set_option maxHeartbeats 1000000 in
theorem takes_false {p q : Pg} {iA dA jA eA sA : Option Addr} {ic dc jc ec sc sn : Nat} {w : World} :
    Calls Try.prog 35 #[.agg #[.int .i64 p.kind, .int .i64 p.level, .slice iA p.items.length ic, .slice dA p.data.length dc, .int .i64 p.next, .int .i64 q.kind, .int .i64 q.level, .slice jA q.items.length jc, .slice eA q.data.length ec, .int .i64 q.next, .slice sA sn sc, .bool false]] w fun e w' => e = .returned (.agg #[.int .i64 p.kind, .int .i64 p.level, .slice iA p.items.length ic, .slice dA p.data.length dc, .int .i64 p.next]) ∧ Ext w w' := by
  have hE := (ext_alloc w (.cells #[.int .i64 p.kind, .int .i64 p.level, .slice iA p.items.length ic, .slice dA p.data.length dc, .int .i64 p.next, .int .i64 q.kind, .int .i64 q.level, .slice jA q.items.length jc, .slice eA q.data.length ec, .int .i64 q.next, .slice sA sn sc, .bool false] 40)).trans (ext_alloc _ (.cells #[.int .i64 0, .int .i64 0, .slice none 0 0, .slice none 0 0, .int .i64 0] 26))
  have hT := heap_alloc2_old w (.cells #[.int .i64 p.kind, .int .i64 p.level, .slice iA p.items.length ic, .slice dA p.data.length dc, .int .i64 p.next, .int .i64 q.kind, .int .i64 q.level, .slice jA q.items.length jc, .slice eA q.data.length ec, .int .i64 q.next, .slice sA sn sc, .bool false] 40) (.cells #[.int .i64 0, .int .i64 0, .slice none 0 0, .slice none 0 0, .int .i64 0] 26)
  have hZ := heap_alloc2_new w (.cells #[.int .i64 p.kind, .int .i64 p.level, .slice iA p.items.length ic, .slice dA p.data.length dc, .int .i64 p.next, .int .i64 q.kind, .int .i64 q.level, .slice jA q.items.length jc, .slice eA q.data.length ec, .int .i64 q.next, .slice sA sn sc, .bool false] 40) (.cells #[.int .i64 0, .int .i64 0, .slice none 0 0, .slice none 0 0, .int .i64 0] 26)
  go_enter Try.func35, Try.ntmps35
  go_wp2_with (refine wpList_store_at 26 (.tmp 2) (.tmp 8) (w.heap.size + 1) _ rfl rfl 26 _ hZ (by kernel_rfl) rfl (by simp [Value.oneCell']) (fun w4 hb hg => ?_))
  exact bodyPost_ret (results_cell_row rfl _ _ _ _ _ _ _ rfl hb Try.underlying26 rfl (by kernel_rfl)) rfl ⟨rfl, ext_only hE hg (by omega)⟩
theorem news4' (w : World) (a b c d : Value) (t : TypeId) (fr : Nat × Nat) {h : Nat} (hh : h = w.heap.size) : ∀ j u, ([a, b, c, d] : List Value)[j]? = some u → (w.alloc (.cells #[a, b, c, d] t fr)).cell? ((⟨h, 0, none⟩ : Addr).add j) = some u := by
  subst hh
  exact news4 w a b c d t fr
/-- The items of two neighbours. -/
def allB (l r : Pg) (sep : List UInt8) : List It := l.items ++ tlB r.kind sep r.items
theorem allB_row {l r : Pg} {sep : List UInt8} (h : l.kind = r.kind) : allB l r sep = rowB l r sep := by rw [rowB_tl, allB, h]
theorem allB_length (l r : Pg) (sep : List UInt8) : (allB l r sep).length = l.items.length + r.items.length := by simp [allB, tlB_length]
/-- A row of items of the call's own. -/
structure RowO (B : Nat) (w : World) (v : Value) (l : List It) : Prop where
  mk_ ::
  ex : ∃ A c ps, v = .slice A l.length c ∧ OwnIts B w A c l ps
set_option maxRecDepth 100000 in
set_option maxHeartbeats 4000000 in
theorem all_any {v u : Value} {p q : Pg} {A : Option Addr} {c n : Nat} {sep : List UInt8} {w : World} (hv : PgV w v p) (hu : PgV w u q) (hs : Sl w A c sep) (hn : n = sep.length) (ht : p.items.length + q.items.length ≤ 2199023255552) :
    Calls Try.prog 71 #[v, u, .slice A n c] w fun e w' => ∃ A' c' m, e = .returned (.slice A' m c') ∧ m = (allB p q sep).length ∧ Its w' A' c' (allB p q sep) ∧ Ext w w' := by
  subst hn
  obtain ⟨iA, ic, dA, dc, rfl, hi, hd⟩ := hv.ex
  obtain ⟨jA, jc, eA, ec, rfl, hj, hcd⟩ := hu.ex
  have hil := hi.len
  have hjl := hj.len
  have hpS := hi.small
  have hqS := hj.small
  obtain ⟨i0, hii, hz0, hz1, hz2⟩ := info_parts infoItem
  have hP0 := heap_alloc2_old w (.cells #[.int .i64 p.kind, .int .i64 p.level, .slice iA p.items.length ic, .slice dA p.data.length dc, .int .i64 p.next] 26) (.cells #[.int .i64 q.kind, .int .i64 q.level, .slice jA q.items.length jc, .slice eA q.data.length ec, .int .i64 q.next] 26)
  have hQ0 := heap_alloc2_new w (.cells #[.int .i64 p.kind, .int .i64 p.level, .slice iA p.items.length ic, .slice dA p.data.length dc, .int .i64 p.next] 26) (.cells #[.int .i64 q.kind, .int .i64 q.level, .slice jA q.items.length jc, .slice eA q.data.length ec, .int .i64 q.next] 26)
  have hE0 := (ext_alloc w (.cells #[.int .i64 p.kind, .int .i64 p.level, .slice iA p.items.length ic, .slice dA p.data.length dc, .int .i64 p.next] 26)).trans (ext_alloc _ (.cells #[.int .i64 q.kind, .int .i64 q.level, .slice jA q.items.length jc, .slice eA q.data.length ec, .int .i64 q.next] 26))
  clear hv hu hd hcd
  go_enter Try.func71, Try.ntmps71
  go_wp2
  go_loopw [7, 8] (fun u i wr => ∃ k : Nat, k ≤ p.items.length ∧ i = .int .i64 k ∧ RowO (w.heap.size + 2) wr u (p.items.take k) ∧ Ext w wr ∧ wr.heap[w.heap.size]? = some (.cells #[.int .i64 p.kind, .int .i64 p.level, .slice iA p.items.length ic, .slice dA p.data.length dc, .int .i64 p.next] 26) ∧ wr.heap[w.heap.size + 1]? = some (.cells #[.int .i64 q.kind, .int .i64 q.level, .slice jA q.items.length jc, .slice eA q.data.length ec, .int .i64 q.next] 26)) (fun _ i _ => p.items.length - (intOf i).toNat)
  case atStart => exact ⟨0, Nat.zero_le _, rfl, ⟨none, 0, [], rfl, OwnIts.nil _ _⟩, hE0, hP0, hQ0⟩
  case round =>
    clear hP0 hQ0 hE0
    obtain ⟨k, hkl, rfl, hrs, hE, hP, hQ⟩ := hrel
    obtain ⟨rA, rc, ps, rfl, hown⟩ := hrs.ex
    have HP := Lib.hid hP
    have HQ := Lib.hid hQ
    clear hP hQ
    have hp2 := cell_of_row wr w.heap.size 2 _ _ _ HP.out
    simp at hp2
    by_cases hlt : k < p.items.length
    · obtain ⟨x, hx⟩ : ∃ x, p.items[k]? = some x := ⟨_, List.getElem?_eq_getElem hlt⟩
      obtain ⟨b, o, rfl, hcx⟩ := hi.rd (by omega)
      obtain ⟨yA, yc, zA, zc, x0, x1, x2, x3, xk, xv⟩ := (hcx _ x hx).ext hE
      have j1 : (k : Int) < p.items.length := by omega
      have HS := Lib.hid (show p.items.take (k + 1) = p.items.take k ++ [x] from take_at hx)
      have hdl : (p.items.take k).length ≤ k := by simp; omega
      clear hx hcx hlt hrs
      generalize hdn : p.items.take k = done at hown HS hdl
      clear hdn
      go_wp2_with fail
      refine (copyItem_any xk xv).mono ?_
      rintro e w1 ⟨kA, kc, vA, vc, rfl, ok, ov, hns, hE1⟩
      have HNS := Lib.hid hns
      have hsz0 := (Array.getElem?_eq_some_iff.1 HQ.out).1
      have hown1 := hown.ext (hE1.trans (ext_alloc _ (.cells #[.slice kA x.key.length kc, .slice vA x.val.length vc, .int .i64 x.ch, .int .i64 x.sz] 51)))
      have hsz1 := hE1.size
      clear hns x0 x1 x2 x3 hp2
      go_wp2_with (at_builtin; refine wpList_append_own _ rfl _ _ 23 rfl (w.heap.size + 2) 51 i0 _ 4 64 Try.underlying23 hii hz0 hz1 hz2 rfl (by decide) _ _ _ rfl hown1.row ⟨w1.heap.size, 0, none⟩ 1 1 [.slice kA x.key.length kc, .slice vA x.val.length vc, .int .i64 x.ch, .int .i64 x.sz] rfl rfl (news4' _ _ _ _ _ _ _ (by simp)) (by simp [Value.oneCell']) (by simp [maxLen]; omega) (by omega) (by simp; omega) ?_; intro v' w9 hown9 hgrow9 _)
      have hE2 : Ext w w9 := (Exc.of_grown (D := fun q _ => w.heap.size + 2 ≤ q) hgrow9 (fun g o hg _ => (hown1.row.lt g hg).1)).to_ext ((hE.trans hE1).trans (ext_alloc _ (.cells #[.slice kA x.key.length kc, .slice vA x.val.length vc, .int .i64 x.ch, .int .i64 x.sz] 51))) (fun q _ h => by omega)
      have hX9 := Exc.of_grown (D := fun q _ => w.heap.size + 2 ≤ q) hgrow9 (fun g o hg _ => (hown1.row.lt g hg).1)
      have hP9 := hX9.blk (((hE1.trans (ext_alloc _ (.cells #[.slice kA x.key.length kc, .slice vA x.val.length vc, .int .i64 x.ch, .int .i64 x.sz] 51)))).blk HP.out) (by omega)
      have hQ9 := hX9.blk (((hE1.trans (ext_alloc _ (.cells #[.slice kA x.key.length kc, .slice vA x.val.length vc, .int .i64 x.ch, .int .i64 x.sz] 51)))).blk HQ.out) (by omega)
      obtain ⟨A2, c2, rfl, hown3⟩ := hown.push hE1 (by omega) ok ov HNS.out _ rfl hown9 hgrow9
      clear hown9 hgrow9 hown hown1 ok ov xk xv hX9
      go_wp2
      go_roundw
      case rel => exact ⟨k + 1, by omega, by rw [Int.natCast_succ], by rw [HS.out]; exact ⟨A2, c2, _, by simp, hown3⟩, hE2, hP9, hQ9⟩
      case measure => simp [intOf]; omega
    obtain rfl : k = p.items.length := by omega
    clear hown ps
    simp only [List.take_length] at hrs ⊢
    clear hlt hkl
    go_wp2
    go_loopw [7, 9] (fun u i wr => ∃ m : Nat, m ≤ q.items.length ∧ i = .int .i64 m ∧ RowO (w.heap.size + 2) wr u (p.items ++ tlB q.kind sep (q.items.take m)) ∧ Ext w wr ∧ wr.heap[w.heap.size + 1]? = some (.cells #[.int .i64 q.kind, .int .i64 q.level, .slice jA q.items.length jc, .slice eA q.data.length ec, .int .i64 q.next] 26)) (fun _ i _ => q.items.length - (intOf i).toNat)
    case atStart => exact ⟨0, Nat.zero_le _, rfl, by rw [List.take_zero, tlB_nil, List.append_nil]; exact hrs, hE, HQ.out⟩
    case round =>
      clear HP HQ hE hrs hp2
      obtain ⟨m, hml, rfl, hrs, hE, hQ⟩ := hrel
      obtain ⟨rA, rc, ps, rfl, hown⟩ := hrs.ex
      have HQ := Lib.hid hQ
      clear hQ
      have q0 := cell_of_row wr (w.heap.size + 1) 0 _ _ _ HQ.out
      have q2 := cell_of_row wr (w.heap.size + 1) 2 _ _ _ HQ.out
      simp only [List.getElem?_toArray, List.getElem?_cons_zero, List.getElem?_cons_succ] at q0 q2
      by_cases hlt : m < q.items.length
      rotate_left
      · obtain rfl : m = q.items.length := by omega
        rw [List.take_length] at hown
        have hits := hown.its (by simp [tlB_length]; omega) (fun x hx => by
          rcases List.mem_append.1 hx with hx | hx
          · exact hpS x hx
          · unfold tlB at hx
            split at hx
            · cases hql : q.items with
              | nil => rw [hql] at hx; simp at hx
              | cons a l =>
                rw [hql] at hx hqS
                simp only [List.modify_zero_cons, List.mem_cons] at hx
                rcases hx with rfl | hx
                · exact ⟨hs.len, (hqS a (by simp)).v⟩
                · exact hqS x (by simp [hx])
            · exact hqS x hx)
        have HI := Lib.hid hits
        rw [List.take_length] at *
        have HL := Lib.hid (show (p.items ++ tlB q.kind sep q.items).length = (allB p q sep).length from rfl)
        clear hown hits hrs hlt hml
        generalize hgn : (p.items ++ tlB q.kind sep q.items).length = rn at HL
        clear hgn
        go_wp2
        go_ret
        exact ⟨rA, rc, rn, rfl, HL.out, HI.out, hE⟩
      obtain ⟨x, hx⟩ : ∃ x, q.items[m]? = some x := ⟨_, List.getElem?_eq_getElem hlt⟩
      obtain ⟨b, o, rfl, hcx⟩ := hj.rd (by omega)
      obtain ⟨yA, yc, zA, zc, x0, x1, x2, x3, xk, xv⟩ := (hcx _ x hx).ext hE
      have j1 : (m : Int) < q.items.length := by omega
      have hdl : (p.items ++ tlB q.kind sep (q.items.take m)).length ≤ p.items.length + m := by simp [tlB_length]; omega
      by_cases hfk : m = 0 ∧ q.kind = 2
      · have ck : ((m : Int) == 0) = true := by simp [hfk.1]
        have kk : (q.kind == 2) = true := by simp [hfk.2]
        have HS := Lib.hid (show p.items ++ tlB q.kind sep (q.items.take (m + 1)) = p.items ++ tlB q.kind sep (q.items.take m) ++ [x.keyed sep] by
          obtain ⟨rfl, h2⟩ := hfk
          rw [h2, tlB_first hx, List.take_zero, tlB_nil, List.append_nil])
        clear hx hcx hlt hrs hfk
        generalize hdn : p.items ++ tlB q.kind sep (q.items.take m) = done at hown HS hdl
        clear hdn
        go_wp2_with fail
        refine (copyItem_any xk xv).mono ?_
        rintro e w1 ⟨kA, kc, vA, vc, rfl, ok, ov, hns, hE1⟩
        have hsz0 := (Array.getElem?_eq_some_iff.1 HQ.out).1
        have hsz1 := hE1.size
        have HQ1 := Lib.hid ((hE1.trans (ext_alloc _ (.cells #[.slice kA x.key.length kc, .slice vA x.val.length vc, .int .i64 x.ch, .int .i64 x.sz] 51))).blk HQ.out)
        clear x0 x1 x2 x3 q0 q2 ok hns
        have q0 := cell_of_row (w1.alloc (.cells #[.slice kA x.key.length kc, .slice vA x.val.length vc, .int .i64 x.ch, .int .i64 x.sz] 51)) (w.heap.size + 1) 0 _ _ _ HQ1.out
        have q2 := cell_of_row (w1.alloc (.cells #[.slice kA x.key.length kc, .slice vA x.val.length vc, .int .i64 x.ch, .int .i64 x.sz] 51)) (w.heap.size + 1) 2 _ _ _ HQ1.out
        simp only [List.getElem?_toArray, List.getElem?_cons_zero, List.getElem?_cons_succ] at q0 q2
        go_wp2_with fail
        clear q0 q2
        refine (copyBytes_any (hs.ext ((hE.trans hE1).trans (ext_alloc _ (.cells #[.slice kA x.key.length kc, .slice vA x.val.length vc, .int .i64 x.ch, .int .i64 x.sz] 51))))).mono ?_
        rintro e w2 ⟨kB, kd, rfl, ok, hE2⟩
        have hd0 := hE2.blk (heap_alloc_new w1 (.cells #[.slice kA x.key.length kc, .slice vA x.val.length vc, .int .i64 x.ch, .int .i64 x.sz] 51))
        have hEr := (hE1.trans (ext_alloc _ (.cells #[.slice kA x.key.length kc, .slice vA x.val.length vc, .int .i64 x.ch, .int .i64 x.sz] 51))).trans hE2
        have HQ2 := Lib.hid (hE2.blk HQ1.out)
        have ov2 := ov.ext ((ext_alloc _ (.cells #[.slice kA x.key.length kc, .slice vA x.val.length vc, .int .i64 x.ch, .int .i64 x.sz] 51)).trans hE2)
        have hs12 := hE2.size
        have hs13 : (w1.alloc (.cells #[.slice kA x.key.length kc, .slice vA x.val.length vc, .int .i64 x.ch, .int .i64 x.sz] 51)).heap.size = w1.heap.size + 1 := by simp
        have hns : NoShare (.slice kB sep.length kd) (.slice vA x.val.length vc) := (noShare_of (ov.ext (ext_alloc _ (.cells #[.slice kA x.key.length kc, .slice vA x.val.length vc, .int .i64 x.ch, .int .i64 x.sz] 51))) (Nat.le_refl _) ok).symm
        have HNS := Lib.hid hns
        obtain ⟨b5, hb5⟩ : ∃ b, w1.heap.size = b := ⟨_, rfl⟩
        rw [hb5] at hd0
        have d0 := cell_of_row w2 b5 0 _ _ _ hd0
        have d1 := cell_of_row w2 b5 1 _ _ _ hd0
        have d2 := cell_of_row w2 b5 2 _ _ _ hd0
        have d3 := cell_of_row w2 b5 3 _ _ _ hd0
        have f0 := frozen_of_row w2 b5 0 _ _ hd0
        simp at d0 d1 d2 d3
        have hd3 := heap_setCell_same w2 b5 0 _ _ (.slice kB sep.length kd) hd0
        have hx3 := setCell_exc_t (i := 0) (v := .slice kB sep.length kd) hd0
        have HQ3 := Lib.hid (hx3.blk HQ2.out (fun h => by have := h.1; omega))
        have hno : ∀ (B q : Nat) (cs : Array Value), B ≤ q → ¬ (q = b5 ∧ ∃ cs', Obj.cells cs 5 (0, 0) = .cells cs' 51 (0, 0)) := fun B q cs _ ⟨_, _, e⟩ => by injection e with _ e; exact absurd e (by decide)
        have ov3 := ownsRow_exc ov2 hx3 (hno _)
        have ok3 := ownsRow_exc ok hx3 (hno _)
        have hEr3 : Ext wr (w2.setCell ⟨b5, 0, none⟩ (.slice kB sep.length kd)) := hx3.to_ext hEr (fun q _ h => by have := h.1; omega)
        simp only [List.setIfInBounds_toArray, List.set_cons_zero] at hd3
        have g0 := cell_of_row _ b5 0 _ _ _ hd3
        have g1 := cell_of_row _ b5 1 _ _ _ hd3
        have g2 := cell_of_row _ b5 2 _ _ _ hd3
        have g3 := cell_of_row _ b5 3 _ _ _ hd3
        simp at g0 g1 g2 g3
        have OK3 := Lib.hid (Own.mono ok3 (B' := wr.heap.size) (by omega))
        have OV3 := Lib.hid (Own.mono ov3 (B' := wr.heap.size) (by omega))
        have hown1 := hown.ext (hEr3.trans (ext_alloc _ (.cells #[.slice kB sep.length kd, .slice vA x.val.length vc, .int .i64 x.ch, .int .i64 x.sz] 51)))
        have HX3 := Lib.hid hEr3
        have hss : wr.heap.size ≤ (w2.setCell ⟨b5, 0, none⟩ (.slice kB sep.length kd)).heap.size := hEr3.size
        have hss2 : wr.heap.size ≤ w2.heap.size := by omega
        clear hd0 hEr hx3 hno ov3 ok3 hd3 hEr3 hE1 hE2 ov ov2 ok hs12 hs13 d1 d2 d3 hns HQ1 HQ2
        go_wp2_with (at_builtin; refine wpList_append_own _ rfl _ _ 23 rfl (w.heap.size + 2) 51 i0 _ 4 64 Try.underlying23 hii hz0 hz1 hz2 rfl (by decide) _ _ _ rfl hown1.row ⟨w2.heap.size, 0, none⟩ 1 1 [.slice kB sep.length kd, .slice vA x.val.length vc, .int .i64 x.ch, .int .i64 x.sz] rfl rfl (news4' _ _ _ _ _ _ _ (by simp)) (by simp [Value.oneCell']) (by simp [maxLen]; omega) (by omega) (by simp; omega) ?_; intro v' w9 hown9 hgrow9 _)
        have hX9 := Exc.of_grown (D := fun q _ => w.heap.size + 2 ≤ q) hgrow9 (fun g o hg _ => (hown1.row.lt g hg).1)
        have hE2 : Ext w w9 := hX9.to_ext ((hE.trans HX3.out).trans (ext_alloc _ (.cells #[.slice kB sep.length kd, .slice vA x.val.length vc, .int .i64 x.ch, .int .i64 x.sz] 51))) (fun q _ h => by omega)
        have hQ9 := hX9.blk ((ext_alloc _ (.cells #[.slice kB sep.length kd, .slice vA x.val.length vc, .int .i64 x.ch, .int .i64 x.sz] 51)).blk HQ3.out) (by omega)
        obtain ⟨A2, c2, rfl, hown3⟩ := hown.push (x := x.keyed sep) HX3.out (by omega) OK3.out OV3.out HNS.out _ rfl hown9 hgrow9
        clear hown9 hgrow9 hown hown1 xk xv hX9 d0 f0 g0 g1 g2 g3
        go_wp2
        go_roundw
        case rel => exact ⟨m + 1, by omega, by rw [Int.natCast_succ], by rw [HS.out]; exact ⟨A2, c2, _, by simp, hown3⟩, hE2, hQ9⟩
        case measure => simp [intOf]; omega
      have HS := Lib.hid (show p.items ++ tlB q.kind sep (q.items.take (m + 1)) = p.items ++ tlB q.kind sep (q.items.take m) ++ [x] by
        rw [tlB_step hx (by omega), List.append_assoc])
      have hcs : ((m : Int) == 0) = false ∨ (((m : Int) == 0) = true ∧ (q.kind == 2) = false) := by
        by_cases h0 : m = 0
        · exact .inr ⟨by simp [h0], by simpa using fun h => hfk ⟨h0, h⟩⟩
        · exact .inl (by simpa using h0)
      clear hx hcx hlt hrs hfk
      generalize hdn : p.items ++ tlB q.kind sep (q.items.take m) = done at hown HS hdl
      clear hdn
      go_wp2_with fail
      refine (copyItem_any xk xv).mono ?_
      rintro e w1 ⟨kA, kc, vA, vc, rfl, ok, ov, hns, hE1⟩
      have HNS := Lib.hid hns
      have hsz0 := (Array.getElem?_eq_some_iff.1 HQ.out).1
      have hsz1 := hE1.size
      have HQ1 := Lib.hid ((hE1.trans (ext_alloc _ (.cells #[.slice kA x.key.length kc, .slice vA x.val.length vc, .int .i64 x.ch, .int .i64 x.sz] 51))).blk HQ.out)
      have hown1 := hown.ext ((hE1.trans (ext_alloc _ (.cells #[.slice kA x.key.length kc, .slice vA x.val.length vc, .int .i64 x.ch, .int .i64 x.sz] 51))).trans (ext_alloc _ (.cells #[.slice kA x.key.length kc, .slice vA x.val.length vc, .int .i64 x.ch, .int .i64 x.sz] 51)))
      have ok1 := ok.ext (ext_alloc _ (.cells #[.slice kA x.key.length kc, .slice vA x.val.length vc, .int .i64 x.ch, .int .i64 x.sz] 51))
      have ov1 := ov.ext (ext_alloc _ (.cells #[.slice kA x.key.length kc, .slice vA x.val.length vc, .int .i64 x.ch, .int .i64 x.sz] 51))
      have hEr := hE1.trans (ext_alloc _ (.cells #[.slice kA x.key.length kc, .slice vA x.val.length vc, .int .i64 x.ch, .int .i64 x.sz] 51))
      clear x0 x1 x2 x3 q0 q2 hns ok ov
      have q0 := cell_of_row (w1.alloc (.cells #[.slice kA x.key.length kc, .slice vA x.val.length vc, .int .i64 x.ch, .int .i64 x.sz] 51)) (w.heap.size + 1) 0 _ _ _ HQ1.out
      have q2 := cell_of_row (w1.alloc (.cells #[.slice kA x.key.length kc, .slice vA x.val.length vc, .int .i64 x.ch, .int .i64 x.sz] 51)) (w.heap.size + 1) 2 _ _ _ HQ1.out
      simp only [List.getElem?_toArray, List.getElem?_cons_zero, List.getElem?_cons_succ] at q0 q2
      have hss : wr.heap.size ≤ (w1.alloc (.cells #[.slice kA x.key.length kc, .slice vA x.val.length vc, .int .i64 x.ch, .int .i64 x.sz] 51)).heap.size := hEr.size
      rcases hcs with ck | ⟨ck, kk⟩
      all_goals
        go_wp2_with (at_builtin; refine wpList_append_own _ rfl _ _ 23 rfl (w.heap.size + 2) 51 i0 _ 4 64 Try.underlying23 hii hz0 hz1 hz2 rfl (by decide) _ _ _ rfl hown1.row ⟨w1.heap.size + 1, 0, none⟩ 1 1 [.slice kA x.key.length kc, .slice vA x.val.length vc, .int .i64 x.ch, .int .i64 x.sz] rfl rfl (news4' _ _ _ _ _ _ _ (by simp)) (by simp [Value.oneCell']) (by simp [maxLen]; omega) (by omega) (by simp; omega) ?_; intro v' w9 hown9 hgrow9 _)
        have hX9 := Exc.of_grown (D := fun q _ => w.heap.size + 2 ≤ q) hgrow9 (fun g o hg _ => (hown1.row.lt g hg).1)
        have hE2 : Ext w w9 := hX9.to_ext ((hE.trans hEr).trans (ext_alloc _ (.cells #[.slice kA x.key.length kc, .slice vA x.val.length vc, .int .i64 x.ch, .int .i64 x.sz] 51))) (fun q _ h => by omega)
        have hQ9 := hX9.blk ((ext_alloc _ (.cells #[.slice kA x.key.length kc, .slice vA x.val.length vc, .int .i64 x.ch, .int .i64 x.sz] 51)).blk HQ1.out) (by omega)
        obtain ⟨A2, c2, rfl, hown3⟩ := hown.push hEr (by omega) ok1 ov1 HNS.out _ rfl hown9 hgrow9
        clear hown9 hgrow9 hown hown1 xk xv hX9 q0 q2
        go_wp2
        go_roundw
        case rel => exact ⟨m + 1, by omega, by rw [Int.natCast_succ], by rw [HS.out]; exact ⟨A2, c2, _, by simp, hown3⟩, hE2, hQ9⟩
        case measure => simp [intOf]; omega
end Go.Proofs.Ytjjbckdiojleeaa
