/- The contract of coppiceref12.Insert. No condition but that what comes in lies in memory. -/
import Derived.Test.YtjjbckdiojleeaaRput
namespace Go.Proofs.Ytjjbckdiojleeaa
set_option linter.unusedVariables false
open Go.RowKit Go.Proofs
set_option maxRecDepth 100000 in
set_option maxHeartbeats 4000000 in
theorem rinsert_any {v u : Value} {p : Pg} {x : It} {a : Int} {w : World} (hv : PgV w v p) (hu : ItV w u x) :
    Calls Try.prog 44 #[v, .int .i64 a, u] w fun e w' => ∃ v', e = .returned (.tuple #[v', .bool (insB p a x).2]) ∧ PgO w.heap.size w' v' (insB p a x).1 ∧ Ext w w' := by
  obtain ⟨iA, ic, dA, dc, rfl, hi, hd⟩ := hv.ex
  obtain ⟨kA, kc, vA, vc, rfl, hk, hvl⟩ := hu.ex
  clear hu hd
  have hil := hi.len
  by_cases hok : 0 ≤ a ∧ a ≤ p.items.length ∧ p.items.length < 8
  rotate_left
  · have HQ := Lib.hid (show insB p a x = (Pg.zero, false) by unfold insB; rw [if_neg hok])
    go_enter Try.func44, Try.ntmps44
    have hcs : a < 0 ∨ (0 ≤ a ∧ (p.items.length : Int) < a) ∨ (0 ≤ a ∧ a ≤ (p.items.length : Int) ∧ (8 : Int) ≤ p.items.length) := by omega
    clear hok
    rcases hcs with h1 | ⟨h1, h2⟩ | ⟨h1, h2, h3⟩
    all_goals
      go_wp2_with (refine wpList_store_box rfl 26 _ _ rfl (w.heap.size + 1 + 1) _ rfl rfl 26 _ (heap_alloc_at _ _ _ (by simp)) (by kernel_rfl) rfl (by simp [Value.oneCell']) (fun w4 hb hg => ?_))
      refine bodyPost_ret (results_cell_tmp' rfl _ _ _ _ _ _ _ rfl hb Try.underlying26 rfl (by kernel_rfl)) rfl ⟨_, by rw [HQ.out]; rfl, by rw [HQ.out]; exact PgO.zero _ _, ext_only (((ext_alloc _ _).trans (ext_alloc _ _)).trans (ext_alloc _ _)) hg (by omega)⟩
  obtain ⟨h0, h1, h2⟩ := hok
  obtain ⟨n, rfl⟩ : ∃ n : Nat, a = n := ⟨a.toNat, by omega⟩
  have hn : n ≤ p.items.length := by omega
  have HQ := Lib.hid (show insB p n x = ({ p with items := p.items.take n ++ [x] ++ p.items.drop n }, true) by unfold insB; rw [if_pos ⟨h0, h1, h2⟩]; simp)
  obtain ⟨i0, hii, hz0, hz1, hz2⟩ := info_parts infoItem
  have hd1 : decide ((n : Int) < 0) = false := by simp
  have hd2 : decide (p.items.length < n) = false := by simp; omega
  have hd3 : decide ((8 : Int) ≤ p.items.length) = false := by simp; omega
  have hd4 : decide (8 ≤ p.items.length) = false := by simp; omega
  go_enter Try.func44, Try.ntmps44
  go_wp2
  have hE0 := ((ext_alloc w (.cells #[.int .i64 p.kind, .int .i64 p.level, .slice iA p.items.length ic, .slice dA p.data.length dc, .int .i64 p.next] 26)).trans (ext_alloc _ (.cells #[.slice kA x.key.length kc, .slice vA x.val.length vc, .int .i64 x.ch, .int .i64 x.sz] 51))).trans (ext_alloc _ (.cells #[.int .i64 0, .int .i64 0, .slice none 0 0, .slice none 0 0, .int .i64 0] 26))
  have hP0 := ((ext_alloc _ (.cells #[.slice kA x.key.length kc, .slice vA x.val.length vc, .int .i64 x.ch, .int .i64 x.sz] 51)).trans (ext_alloc _ (.cells #[.int .i64 0, .int .i64 0, .slice none 0 0, .slice none 0 0, .int .i64 0] 26))).blk (heap_alloc_new w (.cells #[.int .i64 p.kind, .int .i64 p.level, .slice iA p.items.length ic, .slice dA p.data.length dc, .int .i64 p.next] 26))
  have hX0 := (ext_alloc _ (.cells #[.int .i64 0, .int .i64 0, .slice none 0 0, .slice none 0 0, .int .i64 0] 26)).blk (heap_alloc2_new w (.cells #[.int .i64 p.kind, .int .i64 p.level, .slice iA p.items.length ic, .slice dA p.data.length dc, .int .i64 p.next] 26) (.cells #[.slice kA x.key.length kc, .slice vA x.val.length vc, .int .i64 x.ch, .int .i64 x.sz] 51))
  have hZ0 := heap_alloc_at ((w.alloc (.cells #[.int .i64 p.kind, .int .i64 p.level, .slice iA p.items.length ic, .slice dA p.data.length dc, .int .i64 p.next] 26)).alloc (.cells #[.slice kA x.key.length kc, .slice vA x.val.length vc, .int .i64 x.ch, .int .i64 x.sz] 51)) (.cells #[.int .i64 0, .int .i64 0, .slice none 0 0, .slice none 0 0, .int .i64 0] 26) (w.heap.size + 1 + 1) (by simp)
  go_loopw [8, 9] (fun u i wr => ∃ k : Nat, k ≤ n ∧ i = .int .i64 k ∧ RowS (w.heap.size + 3) w wr u (p.items.take k) ∧ Ext w wr ∧ wr.heap[w.heap.size]? = some (.cells #[.int .i64 p.kind, .int .i64 p.level, .slice iA p.items.length ic, .slice dA p.data.length dc, .int .i64 p.next] 26) ∧ wr.heap[w.heap.size + 1]? = some (.cells #[.slice kA x.key.length kc, .slice vA x.val.length vc, .int .i64 x.ch, .int .i64 x.sz] 51) ∧ wr.heap[w.heap.size + 1 + 1]? = some (.cells #[.int .i64 0, .int .i64 0, .slice none 0 0, .slice none 0 0, .int .i64 0] 26)) (fun _ i _ => n - (intOf i).toNat)
  case atStart => exact ⟨0, Nat.zero_le _, rfl, by simpa using RowS.nil _ _ _, hE0, hP0, hX0, hZ0⟩
  case round =>
    clear hP0 hX0 hZ0 hE0
    obtain ⟨k, hk1, rfl, hrs, hE, hP, hXb, hZ⟩ := hrel
    obtain ⟨rA, rc, ps, rfl, hrow, heach⟩ := hrs.ex
    have hp2 := cell_of_row wr w.heap.size 2 _ _ _ hP
    simp at hp2
    by_cases hlt : k < n
    rotate_left
    · obtain rfl : k = n := by omega
      clear hlt hk1 hrs
      have q0 := cell_of_row wr (w.heap.size + 1) 0 _ _ _ hXb
      have q1 := cell_of_row wr (w.heap.size + 1) 1 _ _ _ hXb
      have q2 := cell_of_row wr (w.heap.size + 1) 2 _ _ _ hXb
      have q3 := cell_of_row wr (w.heap.size + 1) 3 _ _ _ hXb
      simp at q0 q1 q2 q3
      have hln := Lib.hid (show (p.items.take k).length = k by simp; omega)
      have hdl : (p.items.take k).length ≤ k := by rw [hln.out]; exact Nat.le_refl _
      generalize hdn : p.items.take k = ahead at hrow heach hdl
      have HAH := Lib.hid hdn
      clear hdn
      have hrow1 := RowI.ext hrow (ext_alloc wr (.cells #[.slice kA x.key.length kc, .slice vA x.val.length vc, .int .i64 x.ch, .int .i64 x.sz] 51))
      have hP1 := (ext_alloc wr (.cells #[.slice kA x.key.length kc, .slice vA x.val.length vc, .int .i64 x.ch, .int .i64 x.sz] 51)).blk hP
      have hXb1 := (ext_alloc wr (.cells #[.slice kA x.key.length kc, .slice vA x.val.length vc, .int .i64 x.ch, .int .i64 x.sz] 51)).blk hXb
      have hZ1 := (ext_alloc wr (.cells #[.slice kA x.key.length kc, .slice vA x.val.length vc, .int .i64 x.ch, .int .i64 x.sz] 51)).blk hZ
      have hE1 := hE.trans (ext_alloc wr (.cells #[.slice kA x.key.length kc, .slice vA x.val.length vc, .int .i64 x.ch, .int .i64 x.sz] 51))
      have hpl := heach.length
      have hsw := (Array.getElem?_eq_some_iff.1 hZ).1
      clear hP hXb hZ
      go_wp2_with (at_builtin; refine wpList_append_own _ rfl _ _ 23 rfl (w.heap.size + 3) 51 i0 _ 4 64 Try.underlying23 hii hz0 hz1 hz2 rfl (by decide) _ _ _ rfl hrow1 ⟨wr.heap.size, 0, none⟩ 1 1 [.slice kA x.key.length kc, .slice vA x.val.length vc, .int .i64 x.ch, .int .i64 x.sz] rfl rfl (news4 _ _ _ _ _ _ _) (by simp [Value.oneCell']) (by simp [maxLen]; omega) (by omega) (by simp; omega) ?_; intro v' w2 hown2 hgrow2 _; obtain ⟨A5, c5, rfl, hrow5⟩ := RowI.push hpl (x := x) (kv := .slice kA x.key.length kc) (vv := .slice vA x.val.length vc) rfl hown2; have hX2 := Exc.of_grown (D := fun q o => w.heap.size + 3 ≤ q) hgrow2 (fun g o hg ho => RowI.ge hrow1 hg); have hP2 := hX2.blk hP1 (by omega); have hXb2 := hX2.blk hXb1 (by omega); have hZ2 := hX2.blk hZ1 (by omega))
      have hS2 := RowS.push heach hrow5 hk hvl
      have hE2 := hX2.to_ext hE1 (fun k _ h => by omega)
      clear hrow1 hP1 hXb1 hZ1 hE1 hpl hX2 hrow5 hrow heach q0 q1 q2 q3 hp2 hXb2
      go_loopw [8, 10] (fun u i wr => ∃ m : Nat, k ≤ m ∧ m ≤ p.items.length ∧ i = .int .i64 m ∧ RowS (w.heap.size + 3) w wr u (ahead ++ [x] ++ (p.items.take m).drop k) ∧ Ext w wr ∧ wr.heap[w.heap.size]? = some (.cells #[.int .i64 p.kind, .int .i64 p.level, .slice iA p.items.length ic, .slice dA p.data.length dc, .int .i64 p.next] 26) ∧ wr.heap[w.heap.size + 1 + 1]? = some (.cells #[.int .i64 0, .int .i64 0, .slice none 0 0, .slice none 0 0, .int .i64 0] 26)) (fun _ i _ => p.items.length - (intOf i).toNat)
      case atStart =>
        refine ⟨k, Nat.le_refl _, hn, rfl, ?_, hE2, hP2, hZ2⟩
        rw [List.drop_eq_nil_of_le (by simp; omega), List.append_nil]
        exact hS2
      case round =>
        clear hS2 hE2 hP2 hZ2
        obtain ⟨m, hkm, hml, rfl, hrs, hE, hP, hZ⟩ := hrel
        obtain ⟨rA, rc, ps, rfl, hrow, heach⟩ := hrs.ex
        have hp2 := cell_of_row wr w.heap.size 2 _ _ _ hP
        simp at hp2
        by_cases hlt : m < p.items.length
        rotate_left
        · obtain rfl : m = p.items.length := by omega
          clear hlt hml hrow heach
          have HLN := Lib.hid (show (ahead ++ [x] ++ p.items.drop k).length ≤ 2199023255552 by rw [← HAH.out]; simp; omega)
          have HQ2 := Lib.hid (show p.items.take k ++ [x] ++ p.items.drop k = ahead ++ [x] ++ p.items.drop k by rw [HAH.out])
          rw [List.take_length] at hrs ⊢
          generalize ahead ++ [x] ++ p.items.drop k = done at hrs HLN HQ2
          obtain ⟨_, hits⟩ := hrs.its hE HLN.out
          have p0 := cell_of_row wr w.heap.size 0 _ _ _ hP
          have p1 := cell_of_row wr w.heap.size 1 _ _ _ hP
          have p3 := cell_of_row wr w.heap.size 3 _ _ _ hP
          have p4 := cell_of_row wr w.heap.size 4 _ _ _ hP
          simp at p0 p1 p3 p4
          clear hrs hP
          go_wp2_with fail
          refine (rwith_any (hv.ext hE) hits rfl).mono ?_
          rintro e w1 ⟨v, rfl, hO, hE1⟩
          have hZ1 := hE1.blk hZ
          have hEE := hE.trans hE1
          have hws := (Array.getElem?_eq_some_iff.1 hZ).1
          have HO := Lib.hid (hO.mono (B' := w.heap.size + 3) (by omega))
          obtain ⟨oA, oc, oD, od, ops, rfl, _⟩ := hO.ex
          clear hO hE1 hits hZ p0 p1 hp2 p3 p4
          go_wp2_with (refine wpList_store_box rfl 26 _ _ rfl (w.heap.size + 1 + 1) _ rfl rfl 26 _ hZ1 (by kernel_rfl) rfl (by simp [Value.oneCell']) (fun w4 hb hg => ?_))
          refine bodyPost_ret (results_cell_tmp' rfl _ _ _ _ _ _ _ rfl hb Try.underlying26 rfl (by kernel_rfl)) rfl ⟨_, by rw [HQ.out, HQ2.out]; rfl, ?_, ext_only hEE hg (by omega)⟩
          rw [HQ.out, HQ2.out]
          exact (HO.out.only hg (by omega)).mono (by omega)
        · have hx : p.items[m]? = some p.items[m] := List.getElem?_eq_getElem hlt
          generalize p.items[m] = y at hx
          obtain ⟨b, o, rfl, hcx⟩ := hi.rd (by omega)
          obtain ⟨yA, yc, zA, zc, x0, x1, x2, x3, xk, xv⟩ := hcx _ y hx
          replace x0 := hE.cell x0
          replace x1 := hE.cell x1
          replace x2 := hE.cell x2
          replace x3 := hE.cell x3
          have i1 : (m : Int) < p.items.length := by omega
          have HS := Lib.hid (show ahead ++ [x] ++ (p.items.take (m + 1)).drop k = ahead ++ [x] ++ (p.items.take m).drop k ++ [y] by
            rw [take_at hx, List.drop_append_of_le_length (by simp; omega)]
            simp only [List.append_assoc])
          have hdl : (ahead ++ [x] ++ (p.items.take m).drop k).length ≤ m + 1 := by rw [← HAH.out]; simp; omega
          clear hx hcx hlt hrs
          generalize hdn : ahead ++ [x] ++ (p.items.take m).drop k = done at hrow heach HS hdl
          clear hdn
          have hrow1 := RowI.ext hrow (ext_alloc wr (.cells #[.slice yA y.key.length yc, .slice zA y.val.length zc, .int .i64 y.ch, .int .i64 y.sz] 51))
          have hP1 := (ext_alloc wr (.cells #[.slice yA y.key.length yc, .slice zA y.val.length zc, .int .i64 y.ch, .int .i64 y.sz] 51)).blk hP
          have hZ1 := (ext_alloc wr (.cells #[.slice yA y.key.length yc, .slice zA y.val.length zc, .int .i64 y.ch, .int .i64 y.sz] 51)).blk hZ
          have hE1 := hE.trans (ext_alloc wr (.cells #[.slice yA y.key.length yc, .slice zA y.val.length zc, .int .i64 y.ch, .int .i64 y.sz] 51))
          have hpl := heach.length
          have hsw := (Array.getElem?_eq_some_iff.1 hZ).1
          clear hP hZ
          go_wp2_with (at_builtin; refine wpList_append_own _ rfl _ _ 23 rfl (w.heap.size + 3) 51 i0 _ 4 64 Try.underlying23 hii hz0 hz1 hz2 rfl (by decide) _ _ _ rfl hrow1 ⟨wr.heap.size, 0, none⟩ 1 1 [.slice yA y.key.length yc, .slice zA y.val.length zc, .int .i64 y.ch, .int .i64 y.sz] rfl rfl (news4 _ _ _ _ _ _ _) (by simp [Value.oneCell']) (by simp [maxLen]; omega) (by omega) (by simp; omega) ?_; intro v' w2 hown2 hgrow2 _; obtain ⟨A5, c5, rfl, hrow5⟩ := RowI.push hpl (x := y) (kv := .slice yA y.key.length yc) (vv := .slice zA y.val.length zc) rfl hown2; have hX2 := Exc.of_grown (D := fun q o => w.heap.size + 3 ≤ q) hgrow2 (fun g o hg ho => RowI.ge hrow1 hg); have hP2 := hX2.blk hP1 (by omega); have hZ2 := hX2.blk hZ1 (by omega))
          go_wp2
          go_roundw
          case rel => exact ⟨m + 1, by omega, by omega, by rw [Int.natCast_succ], by rw [HS.out]; exact RowS.push heach hrow5 xk xv, hX2.to_ext hE1 (fun k _ h => by omega), hP2, hZ2⟩
          case measure => simp [intOf]; omega
    · have hx : p.items[k]? = some p.items[k] := List.getElem?_eq_getElem (by omega)
      generalize p.items[k]'(by omega) = y at hx
      obtain ⟨b, o, rfl, hcx⟩ := hi.rd (by omega)
      obtain ⟨yA, yc, zA, zc, x0, x1, x2, x3, xk, xv⟩ := hcx _ y hx
      replace x0 := hE.cell x0
      replace x1 := hE.cell x1
      replace x2 := hE.cell x2
      replace x3 := hE.cell x3
      have i1 : (k : Int) < p.items.length := by omega
      have i2 : (k : Int) < n := by omega
      have HS := Lib.hid (show p.items.take (k + 1) = p.items.take k ++ [y] from take_at hx)
      have hdl : (p.items.take k).length ≤ k := by simp; omega
      clear hx hcx hlt hrs
      generalize hdn : p.items.take k = done at hrow heach HS hdl
      clear hdn
      have hrow1 := RowI.ext hrow (ext_alloc wr (.cells #[.slice yA y.key.length yc, .slice zA y.val.length zc, .int .i64 y.ch, .int .i64 y.sz] 51))
      have hP1 := (ext_alloc wr (.cells #[.slice yA y.key.length yc, .slice zA y.val.length zc, .int .i64 y.ch, .int .i64 y.sz] 51)).blk hP
      have hXb1 := (ext_alloc wr (.cells #[.slice yA y.key.length yc, .slice zA y.val.length zc, .int .i64 y.ch, .int .i64 y.sz] 51)).blk hXb
      have hZ1 := (ext_alloc wr (.cells #[.slice yA y.key.length yc, .slice zA y.val.length zc, .int .i64 y.ch, .int .i64 y.sz] 51)).blk hZ
      have hE1 := hE.trans (ext_alloc wr (.cells #[.slice yA y.key.length yc, .slice zA y.val.length zc, .int .i64 y.ch, .int .i64 y.sz] 51))
      have hpl := heach.length
      have hsw := (Array.getElem?_eq_some_iff.1 hZ).1
      clear hP hXb hZ
      go_wp2_with (at_builtin; refine wpList_append_own _ rfl _ _ 23 rfl (w.heap.size + 3) 51 i0 _ 4 64 Try.underlying23 hii hz0 hz1 hz2 rfl (by decide) _ _ _ rfl hrow1 ⟨wr.heap.size, 0, none⟩ 1 1 [.slice yA y.key.length yc, .slice zA y.val.length zc, .int .i64 y.ch, .int .i64 y.sz] rfl rfl (news4 _ _ _ _ _ _ _) (by simp [Value.oneCell']) (by simp [maxLen]; omega) (by omega) (by simp; omega) ?_; intro v' w2 hown2 hgrow2 _; obtain ⟨A5, c5, rfl, hrow5⟩ := RowI.push hpl (x := y) (kv := .slice yA y.key.length yc) (vv := .slice zA y.val.length zc) rfl hown2; have hX2 := Exc.of_grown (D := fun q o => w.heap.size + 3 ≤ q) hgrow2 (fun g o hg ho => RowI.ge hrow1 hg); have hP2 := hX2.blk hP1 (by omega); have hXb2 := hX2.blk hXb1 (by omega); have hZ2 := hX2.blk hZ1 (by omega))
      go_wp2
      go_roundw
      case rel => exact ⟨k + 1, by omega, by rw [Int.natCast_succ], by rw [HS.out]; exact RowS.push heach hrow5 xk xv, hX2.to_ext hE1 (fun k _ h => by omega), hP2, hXb2, hZ2⟩
      case measure => simp [intOf]; omega
end Go.Proofs.Ytjjbckdiojleeaa
