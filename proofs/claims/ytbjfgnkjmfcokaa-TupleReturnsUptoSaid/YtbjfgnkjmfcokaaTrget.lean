/- Layer 3: the contract of the document's get. No condition but that the bytes lie in memory and are as many as their first byte says. -/
import Derived.Test.YtbjfgnkjmfcokaaTget
import Derived.Test.YtbjfgnkjmfcokaaTrputs
namespace Go.Proofs.Ytbjfgnkjmfcokaa
open Go.RowKit Go.Proofs
set_option linter.unusedVariables false
theorem lenB_take {b : List UInt8} (h : lenB b ≤ b.length) : lenB (b.take (lenB b)) = lenB b := by
  match b with
  | [] => rfl
  | x :: r =>
    by_cases h64 : x.toNat = 64
    · obtain ⟨k, _, _⟩ := text_get (r := r) h64
      have hl : txtL r ≤ r.length := by rw [k] at h; simp at h; omega
      rw [k, Nat.add_comm, List.take_succ_cons, txt_take r hl]
      obtain ⟨k2, _, _⟩ := text_get (r := escB (unT r) ++ [0]) h64
      have hlen := congrArg List.length (txt_take r hl)
      rw [List.length_take, Nat.min_eq_left hl] at hlen
      rw [k2, (txt_esc (unT r) [] (by simp)).1, hlen]
      simp
      omega
    · by_cases h0 : lenB (x :: r) = 0
      · rw [h0]; rfl
      · obtain ⟨n, hn⟩ : ∃ n, lenB (x :: r) = n + 1 := ⟨lenB (x :: r) - 1, by omega⟩
        rw [hn, List.take_succ_cons, ← hn]
        simp only [lenB]
        rw [if_neg h64, if_neg h64]
theorem slice_mid {w : World} {A : Option Addr} {c : Nat} {bs : List UInt8} (h : Sl w A c bs) (i j : Nat) (hij : i < j) (hj : j ≤ bs.length) : ∃ A1, (∀ W, (Instr.slice 30 (.slice A bs.length c) (some (.int .i64 i)) (some (.int .i64 j)) none).run Try.prog W = .ok (.slice A1 (j - i) (c - i)) W) ∧ Sl w A1 (c - i) ((bs.take j).drop i) := by
  have hl := h.len
  have hle := h.le
  have hc : ¬ c = i := by omega
  have hjc : j ≤ c := by omega
  have hij2 : i ≤ j := by omega
  refine ⟨A.map (·.add i), fun W => ?_, (h.cutAt j hj).dropAt i (by simp; omega) hc⟩
  go_simp
section
variable {w : World} {A : Option Addr} {c : Nat} {bs r : List UInt8} {x : UInt8}
set_option maxRecDepth 100000 in
set_option maxHeartbeats 2000000 in
theorem dget_1 (h : Sl w A c bs) (hb : bs = x :: r) (hx : x.toNat = 1) : Calls Try.prog 48 #[.slice A bs.length c] w fun e w' => e = .returned (valB bs).d ∧ Ext w w' := by
  have hl := h.len
  have hle := h.le
  have hx8 := x.toNat_lt
  have hlen : 1 ≤ bs.length := by rw [hb]; simp
  have hl0 : 0 < bs.length := hlen
  have hl0i : (0 : Int) < (bs.length : Int) := by omega
  have hrl : bs.length = r.length + 1 := by rw [hb]; simp
  have hr : bs.drop 1 = r := by rw [hb]; rfl
  have hat : at8 bs 0 = (x.toNat : Int) := by rw [hb]; rfl
  have HG : Hid (valB bs = Vl.zero) := Lib.hid (by rw [hb]; simp [valB, hx])
  have hxi : (x.toNat : Int) = 1 := by omega
  rw [hxi] at hat
  have hE0 := ext_alloc w (Obj.cells #[.int .i64 0, .bool false, .int .i64 0, .int .u64 0, .int .u64 0, .int .u64 0, str []] 51)
  have hb1 := heap_alloc_new w (Obj.cells #[.int .i64 0, .bool false, .int .i64 0, .int .u64 0, .int .u64 0, .int .u64 0, str []] 51)
  have HC := Lib.hid (h.ext hE0).rd
  obtain ⟨b, off, rfl, hc⟩ := h.rd hlen
  have hck := hE0.cell (hc 0 hlen)
  have hckw := hc 0 hlen
  rw [hat, Nat.add_zero] at hck hckw
  clear hc hat hr hrl hb HC
  go_enter Try.func48, Try.ntmps48
  go_wp2_with (refine wpList_store_box rfl 51 _ _ rfl w.heap.size _ rfl rfl 51 _ hb1 (by kernel_rfl) rfl (by simp [Value.oneCell']) ?_; intro w2 hb hgr)
  have hE := ext_only hE0 hgr (Nat.le_refl _)
  go_wp2
  exact bodyPost_ret (results_cell_row rfl _ _ _ _ _ _ _ rfl hb Try.underlying51 rfl (by kernel_rfl)) rfl ⟨by rw [HG.out]; rfl, hE⟩
set_option maxRecDepth 100000 in
set_option maxHeartbeats 2000000 in
theorem dget_2 (h : Sl w A c bs) (hb : bs = x :: r) (hx : x.toNat = 2) : Calls Try.prog 48 #[.slice A bs.length c] w fun e w' => e = .returned (valB bs).d ∧ Ext w w' := by
  have hl := h.len
  have hle := h.le
  have hx8 := x.toNat_lt
  have hlen : 1 ≤ bs.length := by rw [hb]; simp
  have hl0 : 0 < bs.length := hlen
  have hl0i : (0 : Int) < (bs.length : Int) := by omega
  have hrl : bs.length = r.length + 1 := by rw [hb]; simp
  have hr : bs.drop 1 = r := by rw [hb]; rfl
  have hat : at8 bs 0 = (x.toNat : Int) := by rw [hb]; rfl
  have HG : Hid (valB bs = { Vl.zero with kind := 1, bool := false }) := Lib.hid (by rw [hb]; simp [valB, hx])
  have hxi : (x.toNat : Int) = 2 := by omega
  rw [hxi] at hat
  have hE0 := ext_alloc w (Obj.cells #[.int .i64 0, .bool false, .int .i64 0, .int .u64 0, .int .u64 0, .int .u64 0, str []] 51)
  have hb1 := heap_alloc_new w (Obj.cells #[.int .i64 0, .bool false, .int .i64 0, .int .u64 0, .int .u64 0, .int .u64 0, str []] 51)
  have HC := Lib.hid (h.ext hE0).rd
  obtain ⟨b, off, rfl, hc⟩ := h.rd hlen
  have hck := hE0.cell (hc 0 hlen)
  have hckw := hc 0 hlen
  rw [hat, Nat.add_zero] at hck hckw
  clear hc hat hr hrl hb HC
  go_enter Try.func48, Try.ntmps48
  go_wp2_with (refine wpList_store_box rfl 51 _ _ rfl w.heap.size _ rfl rfl 51 _ hb1 (by kernel_rfl) rfl (by simp [Value.oneCell']) ?_; intro w2 hb hgr)
  have hE := ext_only hE0 hgr (Nat.le_refl _)
  go_wp2
  exact bodyPost_ret (results_cell_row rfl _ _ _ _ _ _ _ rfl hb Try.underlying51 rfl (by kernel_rfl)) rfl ⟨by rw [HG.out]; rfl, hE⟩
set_option maxRecDepth 100000 in
set_option maxHeartbeats 2000000 in
theorem dget_3 (h : Sl w A c bs) (hb : bs = x :: r) (hx : x.toNat = 3) : Calls Try.prog 48 #[.slice A bs.length c] w fun e w' => e = .returned (valB bs).d ∧ Ext w w' := by
  have hl := h.len
  have hle := h.le
  have hx8 := x.toNat_lt
  have hlen : 1 ≤ bs.length := by rw [hb]; simp
  have hl0 : 0 < bs.length := hlen
  have hl0i : (0 : Int) < (bs.length : Int) := by omega
  have hrl : bs.length = r.length + 1 := by rw [hb]; simp
  have hr : bs.drop 1 = r := by rw [hb]; rfl
  have hat : at8 bs 0 = (x.toNat : Int) := by rw [hb]; rfl
  have HG : Hid (valB bs = { Vl.zero with kind := 1, bool := true }) := Lib.hid (by rw [hb]; simp [valB, hx])
  have hxi : (x.toNat : Int) = 3 := by omega
  rw [hxi] at hat
  have hE0 := ext_alloc w (Obj.cells #[.int .i64 0, .bool false, .int .i64 0, .int .u64 0, .int .u64 0, .int .u64 0, str []] 51)
  have hb1 := heap_alloc_new w (Obj.cells #[.int .i64 0, .bool false, .int .i64 0, .int .u64 0, .int .u64 0, .int .u64 0, str []] 51)
  have HC := Lib.hid (h.ext hE0).rd
  obtain ⟨b, off, rfl, hc⟩ := h.rd hlen
  have hck := hE0.cell (hc 0 hlen)
  have hckw := hc 0 hlen
  rw [hat, Nat.add_zero] at hck hckw
  clear hc hat hr hrl hb HC
  go_enter Try.func48, Try.ntmps48
  go_wp2_with (refine wpList_store_box rfl 51 _ _ rfl w.heap.size _ rfl rfl 51 _ hb1 (by kernel_rfl) rfl (by simp [Value.oneCell']) ?_; intro w2 hb hgr)
  have hE := ext_only hE0 hgr (Nat.le_refl _)
  go_wp2
  exact bodyPost_ret (results_cell_row rfl _ _ _ _ _ _ _ rfl hb Try.underlying51 rfl (by kernel_rfl)) rfl ⟨by rw [HG.out]; rfl, hE⟩
set_option maxRecDepth 100000 in
set_option maxHeartbeats 2000000 in
theorem dget_lo (h : Sl w A c bs) (hb : bs = x :: r) (h1 : 23 ≤ x.toNat) (h2 : x.toNat < 32) : Calls Try.prog 48 #[.slice A bs.length c] w fun e w' => e = .returned (valB bs).d ∧ Ext w w' := by
  have hl := h.len
  have hle := h.le
  have hx8 := x.toNat_lt
  have hlen : 1 ≤ bs.length := by rw [hb]; simp
  have hl0 : 0 < bs.length := hlen
  have hl0i : (0 : Int) < (bs.length : Int) := by omega
  have hrl : bs.length = r.length + 1 := by rw [hb]; simp
  have hr : bs.drop 1 = r := by rw [hb]; rfl
  have hat : at8 bs 0 = (x.toNat : Int) := by rw [hb]; rfl
  obtain ⟨q, hq⟩ : ∃ q, r.foldl gath 18446744073709551615 = q := ⟨_, rfl⟩
  have HQ : Hid ((bs.drop 1).foldl gath 18446744073709551615 = q) := Lib.hid (by rw [hr, hq])
  have HG : Hid (valB bs = { Vl.zero with kind := 2, int := if q < 9223372036854775808 then (q : Int) else (q : Int) - 18446744073709551616 }) := Lib.hid (by
    rw [hb]
    rw [val_int (by omega) (by omega), if_pos h2, hq])
  have i32 : (x.toNat : Int) < 32 := by omega
  have i1 : ¬ (x.toNat : Int) = 1 := by omega
  have i3 : ¬ (x.toNat : Int) ≤ 3 := by omega
  have i40 : (x.toNat : Int) ≤ 40 := by omega
  clear h1 h2 hq
  have hE0 := ext_alloc w (Obj.cells #[.int .i64 0, .bool false, .int .i64 0, .int .u64 0, .int .u64 0, .int .u64 0, str []] 51)
  have hb1 := heap_alloc_new w (Obj.cells #[.int .i64 0, .bool false, .int .i64 0, .int .u64 0, .int .u64 0, .int .u64 0, str []] 51)
  have HC := Lib.hid (h.ext hE0).rd
  obtain ⟨b, off, rfl, hc⟩ := h.rd hlen
  have hck := hE0.cell (hc 0 hlen)
  have hckw := hc 0 hlen
  rw [hat, Nat.add_zero] at hck hckw
  clear hc hat hr hrl hb
  go_enter Try.func48, Try.ntmps48
  go_wp2
  go_loopw [4, 5] (fun u i wr => ∃ (k y : Nat), u = .int .u64 y ∧ i = .int .i64 k ∧ 1 ≤ k ∧ k ≤ bs.length ∧ y < 18446744073709551616 ∧ Hid ((bs.drop k).foldl gath y = q) ∧ wr = w.alloc (Obj.cells #[.int .i64 0, .bool false, .int .i64 0, .int .u64 0, .int .u64 0, .int .u64 0, str []] 51)) (fun _ i _ => bs.length - (intOf i).toNat)
  case atStart => exact ⟨1, 18446744073709551615, rfl, rfl, Nat.le_refl _, hlen, by omega, Lib.hid HQ.out, rfl⟩
  case round =>
    obtain ⟨k, y, rfl, rfl, hk1, hk, hy, HT, rfl⟩ := hrel
    by_cases hlt : k < bs.length
    · obtain ⟨z, hz⟩ : ∃ z, bs[k] = z := ⟨_, rfl⟩
      obtain ⟨_, _, hbo, hc⟩ := HC.out hlen
      injection hbo with hbo
      injection hbo with hbo1 hbo2
      subst hbo1 hbo2
      have hat : at8 bs k = (z.toNat : Int) := by simp [at8, hlt, hz]
      have hckk := hc k hlt
      rw [hat] at hckk
      have HT2 : Hid ((bs.drop (k + 1)).foldl gath (gath y z) = q) := Lib.hid (by rw [← HT.out, List.drop_eq_getElem_cons hlt, hz]; rfl)
      have hor := u64_gathW hy z
      have hgl := gath_lt y z
      clear hc hz hat HT hck hckw
      go_wp2
      go_roundw
      case rel => exact ⟨k + 1, gath y z, by go_num, by go_num, by omega, by omega, hgl, HT2, trivial⟩
      case measure => first | (simp [intOf]; done) | (simp [intOf]; omega)
    · obtain rfl : k = bs.length := by omega
      have hyq : y = q := by have := HT.out; simpa using this
      subst hyq
      have hcv : IntKind.i64.wrap (y : Int) = (if y < 9223372036854775808 then (y : Int) else (y : Int) - 18446744073709551616) := by rw [IntKind.wrap_i64]; split <;> omega
      generalize (if y < 9223372036854775808 then (y : Int) else (y : Int) - 18446744073709551616) = z at HG hcv
      clear HT HQ hck hckw
      go_wp2_with (refine wpList_store_box rfl 51 _ _ rfl w.heap.size _ rfl rfl 51 _ hb1 (by kernel_rfl) rfl (by simp [Value.oneCell']) ?_; intro w2 hb hgr)
      have hE := ext_only hE0 hgr (Nat.le_refl _)
      go_wp2
      exact bodyPost_ret (results_cell_row rfl _ _ _ _ _ _ _ rfl hb Try.underlying51 rfl (by kernel_rfl)) rfl ⟨by rw [HG.out]; rfl, hE⟩
set_option maxRecDepth 100000 in
set_option maxHeartbeats 2000000 in
theorem dget_hi (h : Sl w A c bs) (hb : bs = x :: r) (h1 : 32 ≤ x.toNat) (h2 : x.toNat ≤ 40) : Calls Try.prog 48 #[.slice A bs.length c] w fun e w' => e = .returned (valB bs).d ∧ Ext w w' := by
  have hl := h.len
  have hle := h.le
  have hx8 := x.toNat_lt
  have hlen : 1 ≤ bs.length := by rw [hb]; simp
  have hl0 : 0 < bs.length := hlen
  have hl0i : (0 : Int) < (bs.length : Int) := by omega
  have hrl : bs.length = r.length + 1 := by rw [hb]; simp
  have hr : bs.drop 1 = r := by rw [hb]; rfl
  have hat : at8 bs 0 = (x.toNat : Int) := by rw [hb]; rfl
  obtain ⟨q, hq⟩ : ∃ q, r.foldl gath 0 = q := ⟨_, rfl⟩
  have HQ : Hid ((bs.drop 1).foldl gath 0 = q) := Lib.hid (by rw [hr, hq])
  have HG : Hid (valB bs = { Vl.zero with kind := 2, int := if q < 9223372036854775808 then (q : Int) else (q : Int) - 18446744073709551616 }) := Lib.hid (by
    rw [hb]
    rw [val_int (by omega) (by omega), if_neg (show ¬ x.toNat < 32 by omega), hq])
  have i32 : ¬ (x.toNat : Int) < 32 := by omega
  have i1 : ¬ (x.toNat : Int) = 1 := by omega
  have i3 : ¬ (x.toNat : Int) ≤ 3 := by omega
  have i40 : (x.toNat : Int) ≤ 40 := by omega
  clear h1 h2 hq
  have hE0 := ext_alloc w (Obj.cells #[.int .i64 0, .bool false, .int .i64 0, .int .u64 0, .int .u64 0, .int .u64 0, str []] 51)
  have hb1 := heap_alloc_new w (Obj.cells #[.int .i64 0, .bool false, .int .i64 0, .int .u64 0, .int .u64 0, .int .u64 0, str []] 51)
  have HC := Lib.hid (h.ext hE0).rd
  obtain ⟨b, off, rfl, hc⟩ := h.rd hlen
  have hck := hE0.cell (hc 0 hlen)
  have hckw := hc 0 hlen
  rw [hat, Nat.add_zero] at hck hckw
  clear hc hat hr hrl hb
  go_enter Try.func48, Try.ntmps48
  go_wp2
  go_loopw [4, 5] (fun u i wr => ∃ (k y : Nat), u = .int .u64 y ∧ i = .int .i64 k ∧ 1 ≤ k ∧ k ≤ bs.length ∧ y < 18446744073709551616 ∧ Hid ((bs.drop k).foldl gath y = q) ∧ wr = w.alloc (Obj.cells #[.int .i64 0, .bool false, .int .i64 0, .int .u64 0, .int .u64 0, .int .u64 0, str []] 51)) (fun _ i _ => bs.length - (intOf i).toNat)
  case atStart => exact ⟨1, 0, rfl, rfl, Nat.le_refl _, hlen, by omega, Lib.hid HQ.out, rfl⟩
  case round =>
    obtain ⟨k, y, rfl, rfl, hk1, hk, hy, HT, rfl⟩ := hrel
    by_cases hlt : k < bs.length
    · obtain ⟨z, hz⟩ : ∃ z, bs[k] = z := ⟨_, rfl⟩
      obtain ⟨_, _, hbo, hc⟩ := HC.out hlen
      injection hbo with hbo
      injection hbo with hbo1 hbo2
      subst hbo1 hbo2
      have hat : at8 bs k = (z.toNat : Int) := by simp [at8, hlt, hz]
      have hckk := hc k hlt
      rw [hat] at hckk
      have HT2 : Hid ((bs.drop (k + 1)).foldl gath (gath y z) = q) := Lib.hid (by rw [← HT.out, List.drop_eq_getElem_cons hlt, hz]; rfl)
      have hor := u64_gathW hy z
      have hgl := gath_lt y z
      clear hc hz hat HT hck hckw
      go_wp2
      go_roundw
      case rel => exact ⟨k + 1, gath y z, by go_num, by go_num, by omega, by omega, hgl, HT2, trivial⟩
      case measure => first | (simp [intOf]; done) | (simp [intOf]; omega)
    · obtain rfl : k = bs.length := by omega
      have hyq : y = q := by have := HT.out; simpa using this
      subst hyq
      have hcv : IntKind.i64.wrap (y : Int) = (if y < 9223372036854775808 then (y : Int) else (y : Int) - 18446744073709551616) := by rw [IntKind.wrap_i64]; split <;> omega
      generalize (if y < 9223372036854775808 then (y : Int) else (y : Int) - 18446744073709551616) = z at HG hcv
      clear HT HQ hck hckw
      go_wp2_with (refine wpList_store_box rfl 51 _ _ rfl w.heap.size _ rfl rfl 51 _ hb1 (by kernel_rfl) rfl (by simp [Value.oneCell']) ?_; intro w2 hb hgr)
      have hE := ext_only hE0 hgr (Nat.le_refl _)
      go_wp2
      exact bodyPost_ret (results_cell_row rfl _ _ _ _ _ _ _ rfl hb Try.underlying51 rfl (by kernel_rfl)) rfl ⟨by rw [HG.out]; rfl, hE⟩
set_option maxRecDepth 100000 in
set_option maxHeartbeats 2000000 in
theorem dget_48 (h : Sl w A c bs) (hb : bs = x :: r) (hx : x.toNat = 48) (h8 : r.length = 8) : Calls Try.prog 48 #[.slice A bs.length c] w fun e w' => e = .returned (valB bs).d ∧ Ext w w' := by
  have hl := h.len
  have hle := h.le
  have hx8 := x.toNat_lt
  have hlen : 1 ≤ bs.length := by rw [hb]; simp
  have hl0 : 0 < bs.length := hlen
  have hl0i : (0 : Int) < (bs.length : Int) := by omega
  have hrl : bs.length = r.length + 1 := by rw [hb]; simp
  have hr : bs.drop 1 = r := by rw [hb]; rfl
  have hat : at8 bs 0 = (x.toNat : Int) := by rw [hb]; rfl
  obtain ⟨A1, hsl, s1⟩ := slice_from h 1 hlen
  rw [hr] at s1
  have h81 : bs.length - 1 = 8 := by omega
  have h9 : bs.length = 9 := by omega
  rw [h81] at hsl
  have HGR := fun W (hx : Ext w W) => getReal_any (w := W) (s1.ext hx) (by omega)
  rw [h8] at HGR
  obtain ⟨q, hq⟩ : ∃ q, unrankN (bN (r.take 8)) = q := ⟨_, rfl⟩
  rw [hq] at HGR
  have HG : Hid (valB bs = { Vl.zero with kind := 3, real := q }) := Lib.hid (by rw [hb]; unfold valB; simp only; rw [if_neg (by omega), if_neg (by omega), if_neg (by omega), if_pos hx, hq])
  have hxi : (x.toNat : Int) = 48 := by omega
  rw [hxi] at hat
  clear hq h81 h9 s1
  have hE0 := ext_alloc w (Obj.cells #[.int .i64 0, .bool false, .int .i64 0, .int .u64 0, .int .u64 0, .int .u64 0, str []] 51)
  have hb1 := heap_alloc_new w (Obj.cells #[.int .i64 0, .bool false, .int .i64 0, .int .u64 0, .int .u64 0, .int .u64 0, str []] 51)
  have HC := Lib.hid (h.ext hE0).rd
  obtain ⟨b, off, rfl, hc⟩ := h.rd hlen
  have hck := hE0.cell (hc 0 hlen)
  have hckw := hc 0 hlen
  rw [hat, Nat.add_zero] at hck hckw
  have hsl1 : ∀ W, (Instr.slice 30 (.slice (some ⟨b, off, none⟩) bs.length c) (some (.int .i64 1)) none none).run Try.prog W = .ok (.slice A1 8 (c - 1)) W := hsl
  clear hc hat hr hrl hb HC hsl h8
  go_enter Try.func48, Try.ntmps48
  go_wp2_with fail
  refine (HGR _ hE0).mono ?_
  rintro e w3 ⟨rfl, rfl⟩
  clear HGR
  go_wp2_with (refine wpList_store_box rfl 51 _ _ rfl w.heap.size _ rfl rfl 51 _ hb1 (by kernel_rfl) rfl (by simp [Value.oneCell']) ?_; intro w2 hb hgr)
  have hE := ext_only hE0 hgr (Nat.le_refl _)
  go_wp2
  exact bodyPost_ret (results_cell_row rfl _ _ _ _ _ _ _ rfl hb Try.underlying51 rfl (by kernel_rfl)) rfl ⟨by rw [HG.out]; rfl, hE⟩
set_option maxRecDepth 100000 in
set_option maxHeartbeats 2000000 in
theorem dget_56 (h : Sl w A c bs) (hb : bs = x :: r) (hx : x.toNat = 56) (h16 : r.length = 16) : Calls Try.prog 48 #[.slice A bs.length c] w fun e w' => e = .returned (valB bs).d ∧ Ext w w' := by
  have hl := h.len
  have hle := h.le
  have hx8 := x.toNat_lt
  have hlen : 1 ≤ bs.length := by rw [hb]; simp
  have hl0 : 0 < bs.length := hlen
  have hl0i : (0 : Int) < (bs.length : Int) := by omega
  have hrl : bs.length = r.length + 1 := by rw [hb]; simp
  have hr : bs.drop 1 = r := by rw [hb]; rfl
  have hat : at8 bs 0 = (x.toNat : Int) := by rw [hb]; rfl
  obtain ⟨A1, hsl, s1⟩ := slice_mid h 1 9 (by omega) (by omega)
  obtain ⟨A2, hsl2, s2⟩ := slice_from h 9 (by omega)
  have h17 : bs.length - 9 = 8 := by omega
  have h178 : bs.length = 17 := by omega
  rw [h17] at hsl2
  have e1 : (bs.take 9).drop 1 = r.take 8 := by rw [hb]; rfl
  have e2 : bs.drop 9 = r.drop 8 := by rw [hb]; rfl
  rw [e1] at s1
  rw [e2] at s2
  have l1 : (r.take 8).length = 8 := by simp; omega
  have l2 : (r.drop 8).length = 8 := by simp; omega
  have HGR := fun W (hx : Ext w W) => getReal_any (w := W) (s1.ext hx) (by omega)
  have HGS := fun W (hx : Ext w W) => getReal_any (w := W) (s2.ext hx) (by omega)
  rw [l1] at HGR
  rw [l2] at HGS
  have t1 : (r.take 8).take 8 = r.take 8 := by rw [List.take_take]; rfl
  rw [t1] at HGR
  obtain ⟨q, hq⟩ : ∃ q, unrankN (bN (r.take 8)) = q := ⟨_, rfl⟩
  obtain ⟨p, hp⟩ : ∃ q, unrankN (bN ((r.drop 8).take 8)) = q := ⟨_, rfl⟩
  rw [hq] at HGR
  rw [hp] at HGS
  have HG : Hid (valB bs = { Vl.zero with kind := 4, re := q, im := p }) := Lib.hid (by
    rw [hb]
    unfold valB
    simp only
    rw [if_neg (by omega), if_neg (by omega), if_neg (by omega), if_neg (by omega), if_pos hx, hq, hp])
  have hxi : (x.toNat : Int) = 56 := by omega
  rw [hxi] at hat
  clear hq hp h17 h178 s1 s2 e1 e2 l1 l2 t1
  have hE0 := ext_alloc w (Obj.cells #[.int .i64 0, .bool false, .int .i64 0, .int .u64 0, .int .u64 0, .int .u64 0, str []] 51)
  have hb1 := heap_alloc_new w (Obj.cells #[.int .i64 0, .bool false, .int .i64 0, .int .u64 0, .int .u64 0, .int .u64 0, str []] 51)
  have HC := Lib.hid (h.ext hE0).rd
  obtain ⟨b, off, rfl, hc⟩ := h.rd hlen
  have hck := hE0.cell (hc 0 hlen)
  have hckw := hc 0 hlen
  rw [hat, Nat.add_zero] at hck hckw
  have hsl1 : ∀ W, (Instr.slice 30 (.slice (some ⟨b, off, none⟩) bs.length c) (some (.int .i64 1)) (some (.int .i64 9)) none).run Try.prog W = .ok (.slice A1 8 (c - 1)) W := hsl
  have hsl3 : ∀ W, (Instr.slice 30 (.slice (some ⟨b, off, none⟩) bs.length c) (some (.int .i64 9)) none none).run Try.prog W = .ok (.slice A2 8 (c - 9)) W := hsl2
  clear hc hat hr hrl hb HC hsl hsl2 h16
  go_enter Try.func48, Try.ntmps48
  go_wp2
  refine wp_cut (fun W => Ext w W ∧ W.heap[w.heap.size]? = some (.cells #[.int .i64 0, .bool false, .int .i64 0, .int .u64 0, .int .u64 0, .int .u64 0, str []] 51)) ⟨hE0, hb1⟩ ?_
  clear hb1 hE0 hck hckw
  rintro w1 ⟨hE, hb1⟩
  refine wp_region_mild 7 (fun i => match i with
    | 2 => some fun _ v _ => v = .int .u64 q
    | 5 => some fun _ v _ => v = .int .u64 p
    | _ => none) (by kernel_rfl) (by kernel_rfl) (fun W N hW hN => ?_)
  simp only [List.take_succ_cons, List.take_zero]
  repeat (apply wpM_one; (case hg => rfl); (case hsp => rfl); (case hv => (intro w' hw'; go_simp; exact rfl)); simp only [Act.put, List.setIfInBounds_toArray, List.set_cons_succ, List.set_cons_zero])
  refine wpM_new _ rfl rfl (fun V v => Stable.pure) (fun V V' h => rfl) (fun w' hw' hK => ?_) (fun v hv => ?_)
  · unfold mildAt; go_simp; rw [mildUpon_enter]
    exact ⟨Below.refl _ _, calls_ext (HGR _ ((hE.trans hW).trans hw'))⟩
  obtain ⟨_, _, _, rfl⟩ := hv
  simp only [Act.put, List.setIfInBounds_toArray, List.set_cons_succ, List.set_cons_zero]
  repeat (apply wpM_one; (case hg => rfl); (case hsp => rfl); (case hv => (intro w' hw'; go_simp; exact rfl)); simp only [Act.put, List.setIfInBounds_toArray, List.set_cons_succ, List.set_cons_zero])
  refine wpM_new _ rfl rfl (fun V v => Stable.pure) (fun V V' h => rfl) (fun w' hw' hK => ?_) (fun v hv => ?_)
  · unfold mildAt; go_simp; rw [mildUpon_enter]
    exact ⟨Below.refl _ _, calls_ext (HGS _ ((hE.trans hW).trans hw'))⟩
  obtain ⟨_, _, _, rfl⟩ := hv
  simp only [Act.put, List.setIfInBounds_toArray, List.set_cons_succ, List.set_cons_zero]
  repeat (apply wpM_one; (case hg => rfl); (case hsp => rfl); (case hv => (intro w' hw'; go_simp; exact rfl)); simp only [Act.put, List.setIfInBounds_toArray, List.set_cons_succ, List.set_cons_zero])
  apply wpM_nil
  apply hN
  intro w' hE' hK
  simp only [List.drop_succ_cons, List.drop_zero]
  refine wpList_store_box rfl 51 _ _ rfl (w.heap.size) _ rfl rfl 51 _ ((hW.trans hE').blk hb1) (by kernel_rfl) rfl (by simp [Value.oneCell']) (fun w2 hb hgr => ?_)
  have hE := ext_only ((hE.trans hW).trans hE') hgr (Nat.le_refl _)
  clear hK hN
  go_wp2
  exact bodyPost_ret (results_cell_row rfl _ _ _ _ _ _ _ rfl hb Try.underlying51 rfl (by kernel_rfl)) rfl ⟨by rw [HG.out]; rfl, hE⟩
set_option maxRecDepth 100000 in
set_option maxHeartbeats 2000000 in
theorem dget_64 (h : Sl w A c bs) (hb : bs = x :: r) (hx : x.toNat = 64) (ht : r.length = txtL r) : Calls Try.prog 48 #[.slice A bs.length c] w fun e w' => e = .returned (valB bs).d ∧ Ext w w' := by
  have hl := h.len
  have hle := h.le
  have hx8 := x.toNat_lt
  have hlen : 1 ≤ bs.length := by rw [hb]; simp
  have hl0 : 0 < bs.length := hlen
  have hl0i : (0 : Int) < (bs.length : Int) := by omega
  have hrl : bs.length = r.length + 1 := by rw [hb]; simp
  have hr : bs.drop 1 = r := by rw [hb]; rfl
  have hat : at8 bs 0 = (x.toNat : Int) := by rw [hb]; rfl
  have HG : Hid (valB bs = { Vl.zero with kind := 5, text := unT (bs.drop 1) }) := Lib.hid (by rw [hr, hb]; simp [valB, hx])
  have HL : Hid (bs.length = 1 + txtL (bs.drop 1)) := Lib.hid (by rw [hr, hrl, ht]; omega)
  obtain ⟨T, hT⟩ : ∃ T, unT (bs.drop 1) = T := ⟨_, rfl⟩
  rw [hT] at HG
  have HTT := Lib.hid hT
  have hxi : (x.toNat : Int) = 64 := by omega
  rw [hxi] at hat
  have hlp := txtL_pos (bs.drop 1)
  have hl2 : 2 ≤ bs.length := by have := HL.out; omega
  obtain ⟨i0, hi, hz0, hz1, hz2⟩ := info_parts infoU8
  have hsl : ∀ (W : World) (A' : Option Addr) (c' n : Nat) (t : List UInt8), Rd W A' t → n = t.length → (convert 30 9 (.slice A' n c')).run Try.prog W = .ok (.string ⟨t.toArray⟩) W := fun W A' c' n t hr hn => by
    subst hn
    exact run_string_of 30 9 5 Try.underlying30 Try.underlying5 Try.underlying9 hr
  have HSL := Lib.hid hsl
  have HRD := Lib.hid h.rd
  clear hsl hT ht hlp
  have hE0 := ext_alloc w (Obj.cells #[.int .i64 0, .bool false, .int .i64 0, .int .u64 0, .int .u64 0, .int .u64 0, str []] 51)
  have hb1 := heap_alloc_new w (Obj.cells #[.int .i64 0, .bool false, .int .i64 0, .int .u64 0, .int .u64 0, .int .u64 0, str []] 51)
  have HC := Lib.hid (h.ext hE0).rd
  obtain ⟨b, off, rfl, hc⟩ := h.rd hlen
  have hck := hE0.cell (hc 0 hlen)
  have hckw := hc 0 hlen
  rw [hat, Nat.add_zero] at hck hckw
  clear hc hat hr hrl hb HC
  go_enter Try.func48, Try.ntmps48
  go_wp2
  refine wp_cut (fun W => Ext w W ∧ W.heap[w.heap.size]? = some (.cells #[.int .i64 0, .bool false, .int .i64 0, .int .u64 0, .int .u64 0, .int .u64 0, str []] 51)) ⟨hE0, hb1⟩ ?_
  have hlt0 := (Array.getElem?_eq_some_iff.1 hb1).1
  clear hb1 hE0 hck hckw
  rintro w1 ⟨hE1, hb1⟩
  have hw1 := (Array.getElem?_eq_some_iff.1 hb1).1
  go_loopw [6, 7] (fun v i wr => ∃ (k d : Nat) (done : List UInt8) (A' : Option Addr) (c' : Nat), v = .slice A' d c' ∧ i = .int .i64 k ∧ 1 ≤ k ∧ k + 1 ≤ bs.length ∧ Hid (d = done.length) ∧ d ≤ k ∧ Own 5 w1.heap.size wr A' c' done ∧ Hid (bs.length = k + txtL (bs.drop k) ∧ T = done ++ unT (bs.drop k)) ∧ Ext w1 wr) (fun _ i _ => bs.length - (intOf i).toNat)
  case atStart => exact ⟨1, 0, [], none, 0, rfl, rfl, Nat.le_refl _, hl2, Lib.hid rfl, by omega, own_nil, Lib.hid ⟨HL.out, by rw [HTT.out]; rfl⟩, Below.refl _ _⟩
  case round =>
    obtain ⟨k, d, done, A', c', rfl, rfl, hk1, hk, HD, hd, hown, HT, hE⟩ := hrel
    have hsz := hE.size
    by_cases hlt : k + 1 < bs.length
    · have hltI : (k : Int) < (bs.length : Int) - 1 := by omega
      have hkl : k < bs.length := by omega
      obtain ⟨_, _, hbo, hc⟩ := (HRD.out.ext hE1) (by omega)
      injection hbo with hbo
      injection hbo with hbo1 hbo2
      subst hbo1 hbo2
      obtain ⟨z, hz⟩ : ∃ z, bs[k] = z := ⟨_, rfl⟩
      have hat : at8 bs k = (z.toNat : Int) := by simp [at8, hkl, hz]
      have hckk : ∀ w', Ext w1 w' → w'.cell? ⟨b, off + k, none⟩ = some (.int .u8 (z.toNat : Int)) := fun w' h => by rw [← hat]; exact h.cell (hc k hkl)
      have hck0 : wr.cell? ⟨b, off + k, none⟩ = some (.int .u8 (z.toNat : Int)) := hckk wr hE
      have hdr : bs.drop k = z :: bs.drop (k + 1) := by rw [List.drop_eq_getElem_cons hkl, hz]
      rw [hdr] at HT
      clear hdr hz hat hc
      by_cases h0 : z = 0
      · subst h0
        rw [show ((0 : UInt8).toNat : Int) = 0 from rfl] at hck0
        have hl3 : (bs.drop (k + 1)).head? = some 255 := by
          refine Decidable.byContradiction fun hne => ?_
          have := (txtL_zero _ hne).1
          have := HT.out.1
          omega
        obtain ⟨y, hy⟩ : ∃ y, bs[k + 1] = y := ⟨_, rfl⟩
        have hdr : bs.drop (k + 1) = y :: bs.drop (k + 1 + 1) := by rw [List.drop_eq_getElem_cons hlt, hy]
        have hy2 : y = 255 := by rw [hdr] at hl3; simpa using hl3
        subst hy2
        have HT2 : Hid (bs.length = (k + 2) + txtL (bs.drop (k + 2)) ∧ T = (done ++ [0]) ++ unT (bs.drop (k + 2))) := Lib.hid (by
          obtain ⟨e1, e2⟩ := HT.out
          rw [hdr, (txtL_esc _).1] at e1
          rw [hdr, (txtL_esc _).2] at e2
          refine ⟨by rw [show k + 2 = k + 1 + 1 from rfl]; omega, by rw [e2, show k + 2 = k + 1 + 1 from rfl]; simp⟩)
        have hk2 : k + 2 + 1 ≤ bs.length := by have := HT2.out.1; have := txtL_pos (bs.drop (k + 2)); omega
        clear hdr hy hl3 HT
        obtain rfl := HD.out
        go_wp2_with (at_builtin; refine wpList_append_own _ rfl _ _ 30 rfl w1.heap.size 5 i0 (.int .u8 0) 1 1 Try.underlying30 hi hz0 hz1 hz2 rfl (by decide) _ _ _ rfl (World.ownsRow.alloc hown _) ⟨wr.heap.size, 0, none⟩ 1 1 [.int .u8 0] rfl rfl (cell_one_new _ _ _) (by simp [Value.oneCell']) (by simp [maxLen]; omega) (by omega) (by simp; omega) ?_; intro v' w4 hown4 hgrow4 _; obtain ⟨A4, c4, rfl, ho4, hX4⟩ := own_push 0 (exc_refl _ wr) hown hgrow4 hown4 rfl; have hE4 := U8.to_ext hX4 hE (Nat.le_refl _); have hck4 : w4.cell? ⟨b, off + k, none⟩ = some (.int .u8 0) := hckk w4 hE4; clear hown4 hgrow4)
        go_roundw
        case rel => exact ⟨k + 2, _, _, A4, c4, rfl, by go_num, by omega, hk2, Lib.hid (by simp), by omega, ho4, HT2, hE4⟩
        case measure => first | (simp [intOf]; done) | (simp [intOf]; omega)
      · have hne : ¬ (z.toNat : Int) = 0 := fun e => h0 (UInt8.toNat_inj.1 (by simpa using (show z.toNat = 0 by omega)))
        have hne2 : ((z.toNat : Int) == 0) = false := by simpa using hne
        have HT2 : Hid (bs.length = (k + 1) + txtL (bs.drop (k + 1)) ∧ T = (done ++ [z]) ++ unT (bs.drop (k + 1))) := Lib.hid (by
          obtain ⟨e1, e2⟩ := HT.out
          rw [(txtL_cons h0 _).1] at e1
          rw [(txtL_cons h0 _).2] at e2
          exact ⟨by omega, by rw [e2]; simp⟩)
        clear HT
        obtain rfl := HD.out
        go_wp2_with (at_builtin; refine wpList_append_own _ rfl _ _ 30 rfl w1.heap.size 5 i0 (.int .u8 0) 1 1 Try.underlying30 hi hz0 hz1 hz2 rfl (by decide) _ _ _ rfl (World.ownsRow.alloc hown _) ⟨wr.heap.size, 0, none⟩ 1 1 [.int .u8 (z.toNat : Int)] rfl rfl (cell_one_new _ _ _) (by simp [Value.oneCell']) (by simp [maxLen]; omega) (by omega) (by simp; omega) ?_; intro v' w4 hown4 hgrow4 _; obtain ⟨A4, c4, rfl, ho4, hX4⟩ := own_push z (exc_refl _ wr) hown hgrow4 hown4 rfl; have hE4 := U8.to_ext hX4 hE (Nat.le_refl _); have hck4 : w4.cell? ⟨b, off + k, none⟩ = some (.int .u8 (z.toNat : Int)) := hckk w4 hE4; clear hown4 hgrow4)
        go_roundw
        case rel => exact ⟨k + 1, _, _, A4, c4, rfl, by go_num, by omega, by omega, Lib.hid (by simp), by omega, ho4, HT2, hE4⟩
        case measure => first | (simp [intOf]; done) | (simp [intOf]; omega)
    · have hltI : ¬ (k : Int) < (bs.length : Int) - 1 := by omega
      have hkk : k + 1 = bs.length := by omega
      have HT2 : Hid (T = done) := Lib.hid (by
        obtain ⟨e1, e2⟩ := HT.out
        have hkl : k < bs.length := by omega
        have hdr : bs.drop k = [bs[k]] := by rw [List.drop_eq_getElem_cons hkl, List.drop_eq_nil_of_le (by omega)]
        rw [hdr] at e1 e2
        by_cases h0 : bs[k] = 0
        · rw [e2, h0]; simp [unT]
        · rw [(txtL_cons h0 []).1] at e1
          simp [txtL] at e1
          omega)
      have hs := HSL.out wr A' c' d done (hown.sl (by rw [← HD.out]; omega)).rd HD.out
      have hb3 := hE.blk hb1
      have HG2 : Hid (valB bs = { Vl.zero with kind := 5, text := done }) := Lib.hid (by rw [HG.out, HT2.out])
      have hE3 := hE1.trans hE
      clear HT HT2 HG
      go_wp2_with (refine wpList_store_box rfl 51 _ _ rfl w.heap.size _ rfl rfl 51 _ hb3 (by kernel_rfl) rfl (by simp [Value.oneCell']) ?_; intro w2 hb hgr)
      have hE := ext_only hE3 hgr (Nat.le_refl _)
      go_wp2
      exact bodyPost_ret (results_cell_row rfl _ _ _ _ _ _ _ rfl hb Try.underlying51 rfl (by kernel_rfl)) rfl ⟨by rw [HG2.out]; rfl, hE⟩
theorem dget_any (h : Sl w A c bs) (hn : 0 < bs.length) (hlen : lenB bs = bs.length) : Calls Try.prog 48 #[.slice A bs.length c] w fun e w' => e = .returned (valB bs).d ∧ Ext w w' := by
  match bs, hn, h, hlen with
  | x :: r, _, h, hlen =>
    by_cases h1 : x.toNat = 1
    · exact dget_1 h rfl h1
    by_cases h2 : x.toNat = 2
    · exact dget_2 h rfl h2
    by_cases h3 : x.toNat = 3
    · exact dget_3 h rfl h3
    by_cases h4 : 23 ≤ x.toNat ∧ x.toNat ≤ 40
    · by_cases h5 : x.toNat < 32
      · exact dget_lo h rfl h4.1 h5
      · exact dget_hi h rfl (by omega) h4.2
    by_cases h5 : x.toNat = 48
    · have e : lenB (x :: r) = 9 := by simp [lenB, h5]
      exact dget_48 h rfl h5 (by rw [e] at hlen; simp at hlen; omega)
    by_cases h6 : x.toNat = 56
    · have e : lenB (x :: r) = 17 := by simp [lenB, h6]
      exact dget_56 h rfl h6 (by rw [e] at hlen; simp at hlen; omega)
    by_cases h7 : x.toNat = 64
    · have e : lenB (x :: r) = 1 + txtL r := (text_get (r := r) h7).1
      exact dget_64 h rfl h7 (by rw [e] at hlen; simp at hlen; omega)
    · have e := (else_get (c := x) (r := r) (by omega) h4 h5 h6 h7).1
      rw [e] at hlen
      simp at hlen
end
end Go.Proofs.Ytbjfgnkjmfcokaa
