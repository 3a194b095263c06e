/- Layer 10: Pages and its walk. No condition but the sizes. -/
import Derived.Test.YtaalhicdeibodaaPo
namespace Go.Proofs.Ytaalhicdeibodaa
open Go.RowKit Go.Proofs Go.Shelf
set_option linter.unusedVariables false
attribute [local go_sem] Oper.semAt_some
theorem app_blk {w w' : World} {B n : Nat} {e e' : TypeId} {size : Nat} {v v' : Value} {xs : List Value} {b : Nat} {cs : Array Value} {fr : Nat × Nat} (ho : w.ownsRow B e size v n xs)
    (hc : (∃ A c, v = .slice A n c ∧ v' = .slice A (n + 1) c ∧ w.grownBy w' v.ownBlock) ∨ (w.grownBy w' none ∧ ∀ g, v'.ownBlock = some g → w.heap.size ≤ g)) (hb : w.heap[b]? = some (.cells cs e' fr)) (hne : e ≠ e') : w'.heap[b]? = some (.cells cs e' fr) := by
  rcases hc with ⟨A, c, _, _, hg⟩ | ⟨hg, _⟩
  · refine (hg.block b (Array.getElem?_eq_some_iff.1 hb).1 (fun e => ?_)).trans hb
    exact own_not ho hb hne e.symm
  · exact (ext_grown0 hg).blk hb
abbrev walkI (b : Nat) : Value := .func (.func 40) #[] #[.pointer (some ⟨b, 0, none⟩)]
/-- A walk over pages in memory. -/
structure WalkI (B b : Nat) (A : Option Addr) (c : Nat) (w : World) (l : List Int) : Prop where
  hd : w.heap[b]? = some (.cells #[.slice A l.length c] 22 (0, 0))
  row : RowI B w A c l
theorem WalkI.ext {B b c : Nat} {A : Option Addr} {w w' : World} {l : List Int} (h : WalkI B b A c w l) (he : Ext w w') : WalkI B b A c w' l := ⟨he.blk h.hd, own_ext h.row he⟩
theorem WalkI.round {B b c C : Nat} {Dk : Nat → Prop} {A : Option Addr} {w w' : World} {l : List Int} (h : WalkI B b A c w l) (he : RoundX Dk C w w') (hp : ¬ Dk b) (hd : ∀ q, (Value.slice A l.length c).ownBlock = some q → ¬ Dk q) : WalkI B b A c w' l := by
  refine ⟨he.cells h.hd hp, h.row.1, ?_⟩
  rcases h.row.2 with h0 | ⟨g, cap, cur, hv, hb, hg, r⟩
  · exact .inl h0
  · exact .inr ⟨g, cap, cur, hv, hb, he.cells hg (hd g (by rw [hv]; rfl)), r⟩
theorem WalkI.exc {B b c : Nat} {A : Option Addr} {D : Nat → Obj → Prop} {w w' : World} {l : List Int} (h : WalkI B b A c w l) (he : Exc D w w') (hp : ∀ o, ¬ D b o) (hd : ∀ q o, blkOf A = some q → ¬ D q o) : WalkI B b A c w' l :=
  ⟨he.blk h.hd (hp _), own_out h.row he (fun q o hq => hd q o (by rwa [ownBlock_eq] at hq))⟩
set_option maxRecDepth 100000 in
set_option maxHeartbeats 1000000 in
theorem pages_any {B N : Nat} {w : World} {m : Pm} {s : Pl} (h : PoolS B N w m s) (kk : Int) :
    Calls Try.prog 22 #[.pointer (some ⟨m.p, 0, none⟩), .int .i64 kk] w fun e w' => ∃ b A c, e = .returned (walkI b) ∧ w.heap.size ≤ b ∧ WalkI w.heap.size b A c w' (s.pages kk) ∧ Ext w w' := by
  have hmf : ∀ (fn : Fn) (first cap : Array Value) (w : World), (Instr.makeFunc fn first cap).run Try.prog w = .ok (.func fn first cap) w := fun _ _ _ _ => rfl
  obtain ⟨i0, hi, hz0, hz1, hz2⟩ := info_split infoI
  have hok := h.ok
  have hlen := hok.len
  have hsl : s.sts.length = s.cnt.length := sts_len hok.last
  have c1' : ∀ W, Ext w W → W.cell? ⟨m.p, 1, none⟩ = some (.slice m.cA s.cnt.length m.cc) := fun W hW => by
    obtain ⟨L, hM, _⟩ := (h.ext hW).mem
    exact hM.c 1
  have c1 := c1' (w.alloc (Obj.cells #[.slice none 0 0] 22)) (ext_alloc _ _)
  go_enter Try.func22, Try.ntmps22
  go_wp2
  clear c1
  have hb0 := heap_alloc_new w (Obj.cells #[.slice none 0 0] 22)
  have hn0 := World.ownsRow_nil (w.alloc (Obj.cells #[.slice none 0 0] 22)) w.heap.size 3 1
  go_loopw [12] (fun i wr => ∃ (k : Nat) (A : Option Addr) (c : Nat), k ≤ s.cnt.length ∧ i = .int .i64 k ∧ wr.heap[w.heap.size]? = some (.cells #[.slice A (pgsTo s.sts kk k).length c] 22 (0, 0)) ∧ RowI (w.heap.size + 1) wr A c (pgsTo s.sts kk k) ∧ Ext w wr) (fun i _ => s.cnt.length - (intOf i).toNat)
  case atStart => exact ⟨0, none, 0, Nat.zero_le _, rfl, hb0, World.ownsRow_nil _ _ _ _, ext_alloc _ _⟩
  case round =>
    clear hb0 hn0
    obtain ⟨k, A, c, hk, rfl, hb, hR, hE⟩ := hrel
    rename World => v1
    have hbs := (Array.getElem?_eq_some_iff.1 hb).1
    by_cases hkl : k < s.cnt.length
    · obtain ⟨L, hM, _⟩ := (h.ext hE).mem
      have hst := state_any hM hok.last hok.len.2 ((k : Int) + 1)
      have est : stAt s.cnt s.last ((k : Int) + 1) = s.sts.getD k 0 := by
        rw [stAt_eq hok.last, if_pos ⟨by omega, by omega⟩, show ((k : Int) + 1 - 1).toNat = k by omega]
      rw [est] at hst
      have hpl := pgsTo_len s.sts kk k
      have hsz := hE.size
      clear hM
      by_cases h1 : s.sts.getD k 0 = kk
      · have hps := Lib.hid (pgs_ic_succ s.sts kk k h1)
        have hpn := Lib.hid (pgs_len_succ s.sts kk k h1)
        rw [h1] at hst
        clear est h1
        obtain ⟨n, hn⟩ : ∃ n, (pgsTo s.sts kk k).length = n := ⟨_, rfl⟩
        unfold RowI at hR
        rw [hn] at hR hpl hb
        have HN := Lib.hid hn
        clear hn
        have q0 := cell_of_row _ _ 0 _ _ _ hb
        simp only [List.getElem?_toArray, List.getElem?_cons_zero] at q0
        go_wp2_with fail
        refine hst.mono ?_
        rintro e w2 ⟨rfl, rfl⟩
        clear hst
        go_wp2_with (at_builtin; refine wpList_append_apart rfl _ _ 22 rfl (w.heap.size + 1) 3 i0 _ 1 8 Try.underlying22 hi hz0 hz1 hz2 rfl (by decide) _ n _ rfl (hR.alloc _) ⟨v1.heap.size, 0, none⟩ 1 1 [.int .i64 ((k : Int) + 1)] rfl rfl (news_int _ _ _) (int_one _) (by decide) (by unfold maxLen; omega) (by omega) (by simp; omega) ?_; intro v' w3 ho3 hc3; obtain ⟨A3, c3, rfl⟩ := slice_of_own ho3; have hb3 := app_blk (hR.alloc _) hc3 ((ext_alloc v1 _).blk hb) (by decide); have q3 := cell_of_row _ _ 0 _ _ _ hb3; have f3 := frozen_of_row _ _ 0 _ _ hb3; simp only [List.getElem?_toArray, List.getElem?_cons_zero] at q3)
        have hE3 := app_ext (B := 0) (hE.trans (ext_alloc v1 _)) (own_mono (hR.alloc _) (Nat.le_succ _)) hc3
        rw [← hps.out] at ho3
        have hE4 : Ext w (w3.setCell ⟨w.heap.size, 0, none⟩ (.slice A3 (n + 1) c3)) := (setCell_excp w3 w.heap.size 0 (.slice A3 (n + 1) c3)).to_ext hE3 (fun q o e => by omega)
        have hb4 : (w3.setCell ⟨w.heap.size, 0, none⟩ (.slice A3 (n + 1) c3)).heap[w.heap.size]? = some (.cells #[.slice A3 (pgsTo s.sts kk (k + 1)).length c3] 22 (0, 0)) := by
          rw [heap_setCell_same w3 w.heap.size 0 _ _ _ hb3, hpn.out, HN.out]
          rfl
        have hR4 : RowI (w.heap.size + 1) (w3.setCell ⟨w.heap.size, 0, none⟩ (.slice A3 (n + 1) c3)) A3 c3 (pgsTo s.sts kk (k + 1)) := by
          unfold RowI
          rw [hpn.out, HN.out]
          refine own_out ho3 (setCell_excp w3 w.heap.size 0 (.slice A3 (n + 1) c3)) (fun b o hb e => ?_)
          have := (World.ownsRow.lt ho3 b hb).1
          omega
        clear hc3 hR ho3 hE3 hb3 q0 q3 f3 hb
        go_wp2
        go_roundw
        case rel => exact ⟨k + 1, A3, c3, by omega, by go_num, hb4, hR4, hE4⟩
        case measure => simp [intOf]; omega
      · obtain ⟨z, hz⟩ : ∃ z, s.sts.getD k 0 = z := ⟨_, rfl⟩
        have hps : pgsTo s.sts kk (k + 1) = pgsTo s.sts kk k := by rw [pgsTo_succ, if_neg h1, List.append_nil]
        rw [hz] at hst h1
        have HP := Lib.hid hps
        have hb1 : (z == kk) = false := by simpa using h1
        clear hz est hps
        go_wp2_with fail
        refine hst.mono ?_
        rintro e w2 ⟨rfl, rfl⟩
        clear hst
        go_wp2
        go_roundw
        case rel => exact ⟨k + 1, A, c, by omega, by go_num, by rw [HP.out]; exact hb, by rw [HP.out]; exact hR, hE⟩
        case measure => simp [intOf]; omega
    · obtain rfl : k = s.cnt.length := by omega
      have hW : WalkI w.heap.size w.heap.size A c v1 (s.pages kk) := ⟨hb, own_mono hR (Nat.le_succ _)⟩
      clear hb hR
      go_wp2
      go_ret
      exact ⟨w.heap.size, A, c, rfl, Nat.le_refl _, hW, hE⟩
abbrev encI (x : Int) : Array Value := #[.int .i64 x]
set_option maxRecDepth 100000 in
set_option maxHeartbeats 2000000 in
theorem pages_seq {B b c : Nat} {A : Option Addr} {l : List Int} {w : World} {Dk : Nat → Prop} (hS : WalkI B b A c w l) (hl : l.length ≤ 1000000) (hb : ¬ Dk b) (hd : ∀ q, (Value.slice A l.length c).ownBlock = some q → ¬ Dk q) :
    SeqX Try.prog 40 #[.pointer (some ⟨b, 0, none⟩)] encI (fun _ => False) Dk (fun xs => xs = l) (fun pre => pre <+: l) w := by
  intro y J Jx W hW hJ hJx hY h0
  replace hS := hS.round hW (fun h => h) (fun q _ h => h)
  have hWs := hW.size
  clear hW
  have q0 := cell_of_row W b 0 _ _ _ hS.hd
  simp only [List.getElem?_toArray, List.getElem?_cons_zero] at q0
  refine callsIn_of_wp Try.func40 rfl trivial ?_ rfl
  simp only [Try.ntmps40, List.size_toArray, List.length_cons, List.length_nil, Nat.reduceAdd, Nat.reduceSub, Array.replicate_succ, Array.replicate_zero, List.push_toArray, List.append_toArray, List.nil_append, List.cons_append]
  gi_wp2
  clear q0
  gi_loopw [7] (fun i wr => ∃ k : Nat, k ≤ l.length ∧ i = .int .i64 k ∧ J (l.take k) wr ∧ RoundX Dk W.heap.size W wr) (fun i _ => l.length - (intOf i).toNat)
  case atStart => exact ⟨0, Nat.zero_le _, rfl, h0, RoundX.refl _ _ _⟩
  case round =>
    obtain ⟨k, hk, rfl, hJs, hX⟩ := hrel
    rename World => v1
    by_cases hkl : k < l.length
    · obtain ⟨g, hg, hlc, hBg, c0, _⟩ := RowI.at (w := v1) (hS.round hX hb hd).row hkl
      have hkc : k < c := by omega
      have hpre : l.take k ++ [l.getD k 0] = l.take (k + 1) := by
        rw [List.take_succ_eq_append_getElem hkl]
        simp [List.getD_eq_getElem?_getD, List.getElem?_eq_getElem hkl]
      obtain ⟨x, hx⟩ : ∃ x, l.getD k 0 = x := ⟨_, rfl⟩
      rw [hx] at c0 hpre
      obtain ⟨fn, tmps, assign, body, hy, hR⟩ := hY (l.take k) x v1 hJs (by rw [hpre]; exact List.take_prefix _ _)
      rw [hpre] at hR
      subst hg
      clear hx hpre
      gi_wp2
      refine ⟨rfl, hR.mono ?_⟩
      rintro e W3 (⟨rfl, hJ3, hk3⟩ | ⟨rfl, hJx3, hk3⟩)
      · have hX3 := hX.trans hk3
        clear hR hy hk3
        gi_wp2
        go_roundw
        case rel => exact ⟨k + 1, by omega, by go_num, hJ3, hX3⟩
        case measure => simp [intOf]; omega
      · gi_wp2
        refine bodyPost_ret (results_none rfl _ _ _) rfl ?_
        exact ⟨⟨_, rfl⟩, .inr ⟨_, List.take_prefix _ _, hJx3⟩⟩
    · obtain rfl : k = l.length := by omega
      rw [List.take_length] at hJs
      gi_wp2
      go_end0
      exact ⟨⟨_, rfl⟩, .inl ⟨_, rfl, hJs⟩⟩
end Go.Proofs.Ytaalhicdeibodaa
