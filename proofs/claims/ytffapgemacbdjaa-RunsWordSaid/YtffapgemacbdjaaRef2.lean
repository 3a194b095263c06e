/- Layer 5: the document's First. No condition. -/
import Derived.Test.YtffapgemacbdjaaRea
namespace Go.Proofs.Ytffapgemacbdjaa
open Go.RowKit Go.Proofs Go.Shelf
set_option linter.unusedVariables false
attribute [local go_sem] Oper.semAt_some
abbrev ivs (l : List Int) : List Value := l.map (Value.int .i64)
/-- A row of ints of the call's own. -/
def RowI (B : Nat) (w : World) (A : Option Addr) (c : Nat) (l : List Int) : Prop := w.ownsRow B 3 1 (.slice A l.length c) l.length (ivs l)
theorem infoI : (Try.prog.info? 3).map (fun i => (i.zero, i.size, i.bytes)) = some (some (.int .i64 0), 1, 8) := by kernel_rfl
theorem RowI.ext {B : Nat} {w w' : World} {A : Option Addr} {c : Nat} {l : List Int} (h : RowI B w A c l) (he : Ext w w') : RowI B w' A c l := own_ext h he
theorem pushI {B : Nat} {w w3 : World} {A : Option Addr} {c : Nat} {ll : List Int} {x : Int} {v' : Value} (h : RowI B w A c ll) (ho3 : w3.ownsRow B 3 1 v' (ll.length + 1) (ivs ll ++ [.int .i64 x]))
    (hc3 : (∃ A' c', Value.slice A ll.length c = .slice A' ll.length c' ∧ v' = .slice A' (ll.length + 1) c' ∧ w.grownBy w3 (Value.slice A ll.length c).ownBlock) ∨ (w.grownBy w3 none ∧ ∀ g, v'.ownBlock = some g → w.heap.size ≤ g)) :
    ∃ A3 c3, v' = .slice A3 (ll.length + 1) c3 ∧ RowI B w3 A3 c3 (ll ++ [x]) ∧ Exc (fun q _ => B ≤ q ∧ (Value.slice A ll.length c).ownBlock = some q) w w3 := by
  have hex : Exc (fun q _ => B ≤ q ∧ (Value.slice A ll.length c).ownBlock = some q) w w3 := by
    rcases hc3 with ⟨A', c', e, _, hg⟩ | ⟨hg, _⟩
    · exact Exc.of_grown hg (fun g o h1 _ => ⟨(World.ownsRow.lt h g h1).1, h1⟩)
    · exact Exc.of_grown hg (fun g o h1 _ => by cases h1)
  obtain ⟨A3, c3, rfl⟩ := slice_of_own ho3
  refine ⟨A3, c3, rfl, ?_, hex⟩
  unfold RowI
  rw [List.length_append]
  simpa [ivs] using ho3
theorem RowI.read {B : Nat} {w : World} {A : Option Addr} {c : Nat} {l : List Int} (h : RowI B w A c l) {k : Nat} {z : Int} (hz : l[k]? = some z) : ∃ g, A = some ⟨g, 0, none⟩ ∧ k < c ∧ ∀ W, Ext w W → W.cell? ⟨g, k, none⟩ = some (.int .i64 z) := by
  have hk := (List.getElem?_eq_some_iff.1 hz).1
  rcases h.2 with ⟨hv, h0⟩ | ⟨g, cap, cur, hv, hb, hg, hle, _⟩
  · omega
  · injection hv with h1 h2 h3
    subst h1 h3
    refine ⟨g, rfl, by omega, fun W hW => ?_⟩
    rw [World.ownsRow.cellAt (own_ext h hW) _ (by omega)]
    rw [List.getElem?_map, hz]
    rfl
set_option maxRecDepth 100000 in
set_option maxHeartbeats 2000000 in
theorem first_any {B p c n : Nat} {A : Option Addr} {L : List Rn} {w : World} (hS : SetAtr B p A c w L) (hl : L.length ≤ 100000) (hn : n ≤ 1000) :
    Calls Try.prog 127 #[.pointer (some ⟨p, 0, none⟩), .int .i64 n] w fun e w' => ∃ A' c', e = .returned (.slice A' ((numsL L).take n).length c') ∧ RowI w.heap.size w' A' c' ((numsL L).take n) ∧ Ext w w' := by
  obtain ⟨i0, hi0, hz0, hzz1, hzz2⟩ := info_parts infoI
  go_enter Try.func127, Try.ntmps127
  go_wp2
  go_loopw [5, 6] (fun va iv wr => ∃ (k : Nat) (A1 : Option Addr) (c1 : Nat) (M : List Int), k ≤ L.length ∧ iv = .int .i64 k ∧ va = .slice A1 M.length c1 ∧ Hid (M = (numsL (L.take k)).take n) ∧ M.length ≤ n ∧ RowI w.heap.size wr A1 c1 M ∧ Ext w wr) (fun _ iv _ => L.length - (intOf iv).toNat)
  case atStart => exact ⟨0, none, 0, [], Nat.zero_le _, rfl, rfl, Lib.hid (by simp [numsL]), Nat.zero_le _, World.ownsRow_nil _ _ _ _, Below.refl _ _⟩
  case round =>
    obtain ⟨k, A1, c1, M, hk, rfl, rfl, HM, hml, ho1, hE⟩ := hrel
    have q1 := cell_of_row wr p 0 _ _ _ (hS.ext hE).hd
    simp only [List.getElem?_toArray, List.getElem?_cons_zero] at q1
    rename World => v1
    by_cases hlt : k < L.length
    · obtain ⟨x, hx⟩ : ∃ x, L[k]? = some x := ⟨_, List.getElem?_eq_getElem hlt⟩
      obtain ⟨g, rfl, hkc, hcx⟩ := (hS.row).read hx
      have hbx := hS.bd x (List.mem_of_getElem? hx)
      have hwx := hS.wf.each x (List.mem_of_getElem? hx)
      obtain ⟨xl, xh⟩ := x
      obtain ⟨⟨b1, b2⟩, b3, b4⟩ := hbx
      simp only at b1 b2 b3 b4 hwx hcx
      have y0 := (hcx v1 hE).1
      have hst := numsU_start L hx
      rw [← hst] at HM
      have HX := Lib.hid hx
      clear hst hx
      go_wp2
      clear y0 q1
      go_loopw [5, 7] (fun va xv wx => ∃ (x : Int) (A1 : Option Addr) (c1 : Nat) (M : List Int), xl ≤ x ∧ x ≤ xh ∧ xv = .int .i64 x ∧ va = .slice A1 M.length c1 ∧ Hid (M = (numsU L k x).take n) ∧ M.length ≤ n ∧ RowI w.heap.size wx A1 c1 M ∧ Ext w wx) (fun va _ _ => n - (match va with | .slice _ m _ => m | _ => 0))
      case atStart => exact ⟨xl, A1, c1, M, Int.le_refl _, hwx, rfl, rfl, HM, hml, ho1, hE⟩
      case round =>
        clear hE ho1 HM hml
        obtain ⟨x, A1, c1, M, hx1, hx2, rfl, rfl, HM, hml, ho1, hE⟩ := hrel
        have q1 := cell_of_row wr p 0 _ _ _ (hS.ext hE).hd
        simp only [List.getElem?_toArray, List.getElem?_cons_zero] at q1
        have hszr := hE.size
        by_cases hmn : M.length < n
        · have hall : numsU L k x = M := by
            have h1 := HM.out
            have h2 := congrArg List.length h1
            rw [List.length_take] at h2
            rw [h1, List.take_of_length_le (by omega)]
          have hstep := numsU_step L HX.out hx1
          rw [hall] at hstep
          have hM2 : Hid (M ++ [x] = (numsU L k (x + 1)).take n) := Lib.hid (by
            rw [← hstep, List.take_of_length_le (by simp; omega)])
          clear hall hstep HM
          have hcx1 : ∀ W, Ext w W → W.cell? ⟨g, k * 2 + 1, none⟩ = some (.int .i64 xh) := fun W h => (hcx W h).2
          have hpx : ∀ W, Ext w W → W.cell? ⟨p, 0, none⟩ = some (.slice (some ⟨g, 0, none⟩) L.length c) := fun W h => cell_of_row _ _ _ _ _ _ (hS.ext h).hd
          go_wp2_with (at_builtin; refine wpList_append_apart rfl _ _ 23 rfl w.heap.size 3 i0 _ 1 8 Try.underlying23 hi0 hz0 hzz1 hzz2 rfl (by decide) _ M.length _ rfl (own_ext ho1 (ext_alloc _ _)) ⟨wr.heap.size, 0, none⟩ 1 1 [.int .i64 x] rfl rfl (news_row wr _ _ _) (by intro u hu; simp only [List.mem_cons, List.not_mem_nil, or_false] at hu; rcases hu with rfl; rfl) (by decide) (by unfold maxLen; omega) (by omega) (by simp; omega) ?_; intro v' w3 ho3 hc3; obtain ⟨A3, c3, rfl, o3, hx3⟩ := pushI (x := x) (own_ext ho1 (ext_alloc _ _)) ho3 hc3; have hE3 := hx3.to_ext (hE.trans (ext_alloc _ _)) (fun q o h => h.1); have q3 := hpx w3 hE3; have q4 := hcx1 w3 hE3; by_cases hxh : x = xh)
          · subst hxh
            have HM3 : Hid (M ++ [x] = (numsL (L.take (k + 1))).take n) := Lib.hid (by rw [hM2.out]; have := numsU_end L HX.out; simp only at this; rw [this])
            clear ho3 hc3 hx3 ho1 hM2 q1
            go_wp2
            go_roundw
            case rel => exact ⟨k + 1, A3, c3, M ++ [x], by omega, by go_num, by simp, HM3, by simp; omega, o3, hE3⟩
            case measure => simp [intOf]; omega
          · clear ho3 hc3 hx3 ho1 q1
            go_wp2
            go_roundw
            case rel => exact ⟨x + 1, A3, c3, M ++ [x], by omega, by omega, by go_num, by simp, hM2, by simp; omega, o3, hE3⟩
            case measure => simp; omega
        · have HM3 : Hid (M = (numsL (L.take (k + 1))).take n) := Lib.hid (by
            have hp := numsU_prefix1 L HX.out hx1 hx2
            have hp2 : numsU L k x <+: numsL (L.take (k + 1)) := List.IsPrefix.trans ⟨[x], rfl⟩ hp
            have h1 := HM.out
            have h2 := congrArg List.length h1
            rw [List.length_take] at h2
            rw [h1, take_prefix hp2 (by omega)])
          clear HM
          go_wp2
          go_roundw
          case rel => exact ⟨k + 1, A1, c1, M, by omega, by go_num, rfl, HM3, hml, ho1, hE⟩
          case measure => simp [intOf]; omega
    · obtain rfl : k = L.length := by omega
      rw [List.take_length] at HM
      go_wp2
      go_ret
      rw [← HM.out]
      exact ⟨A1, c1, rfl, ho1, hE⟩
end Go.Proofs.Ytffapgemacbdjaa
