/- Layer 3: contracts of the functions that lay numbers as bytes. No condition but the bounds of the types. -/
import Derived.Test.YtbjfgnkjmfcokaaTenc
import Derived.Test.YtbjfgnkjmfcokaaOwnb
import Derived.Test.YtbjfgnkjmfcokaaRefa
import Derived.Test.YtbjfgnkjmfcokaaRg
namespace Go.Proofs.Ytbjfgnkjmfcokaa
open Go.RowKit Go.Proofs
set_option linter.unusedVariables false
/-- Blocks of bytes from B on. -/
def U8 (B : Nat) : Nat → Obj → Prop := fun q o => B ≤ q ∧ ∃ cs, o = .cells cs 5 (0, 0)
theorem Own.blk {B : Nat} {w : World} {A : Option Addr} {c : Nat} {bs : List UInt8} (h : Own 5 B w A c bs) {g : Nat} {o : Obj} (hg : (Value.slice A bs.length c).ownBlock = some g) (ho : w.heap[g]? = some o) : U8 B g o := by
  rcases h.2 with ⟨hv, _⟩ | ⟨g', cap, cur, hv, hb, hk, r⟩
  · rw [hv] at hg; cases hg
  · rw [hv] at hg
    injection hg with hg
    subst hg
    rw [hk] at ho
    injection ho with ho
    exact ⟨hb, _, ho.symm⟩
theorem U8.to_ext {B : Nat} {w0 w w' : World} (h : Exc (U8 B) w w') (h0 : Ext w0 w) (hB : w0.heap.size ≤ B) : Ext w0 w' := h.to_ext h0 (fun k o hd => Nat.le_trans hB hd.1)
/-- Behind an append of one byte. -/
theorem own_push {B : Nat} {w wr w2 : World} {o : Obj} {A : Option Addr} {c : Nat} {bs : List UInt8} {v' : Value} {x : Int} (b : UInt8) (hE : Exc (U8 B) w wr) (h : Own 5 B wr A c bs) (hg : (wr.alloc o).grownBy w2 (Value.slice A bs.length c).ownBlock)
    (hown : w2.ownsRow B 5 1 v' (bs.length + 1) (cells8 bs ++ [.int .u8 x])) (hx : x = (b.toNat : Int)) : ∃ A' c', v' = .slice A' (bs ++ [b]).length c' ∧ Own 5 B w2 A' c' (bs ++ [b]) ∧ Exc (U8 B) w w2 := by
  subst hx
  obtain ⟨A', c', rfl⟩ := slice_of_own hown
  refine ⟨A', c', by simp, ?_, hE.trans ((Exc.of_ext (ext_alloc wr o)).trans (Exc.of_grown hg (fun g o' h1 h2 => ?_)))⟩
  · unfold Own
    rw [cells8_append, List.length_append]
    exact hown
  · exact (h.ext (ext_alloc wr o)).blk h1 h2
theorem b8_shift (x j : Nat) : (x : Int) / 2 ^ (8 * j) % 256 = ((b8 ((x / 256 ^ j : Nat) : Int)).toNat : Int) := by
  rw [b8_toNat]
  have : (2 : Int) ^ (8 * j) = ((256 ^ j : Nat) : Int) := by
    rw [show (256 : Nat) = 2 ^ 8 by rfl, ← Nat.pow_mul, Int.natCast_pow]
    rfl
  rw [this]
  simp
section
variable {w : World}
theorem width_any {x : Nat} (hx : x < 18446744073709551616) : Calls Try.prog 65 #[.int .u64 x] w fun e w' => e = .returned (.int .i64 (widthN x)) ∧ w = w' := by
  go_enter Try.func65, Try.ntmps65
  go_wp2
  go_loopw [0, 3] (fun u i wr => ∃ (k y : Nat), u = .int .u64 y ∧ i = .int .i64 k ∧ Hid (widthN x = k + widthN y) ∧ k + widthN y ≤ 8 ∧ y < 18446744073709551616 ∧ w = wr) (fun u i _ => (intOf u).toNat)
  case atStart => exact ⟨0, x, rfl, rfl, Lib.hid (by omega), by have := widthN_8 hx; omega, hx, rfl⟩
  case round =>
    obtain ⟨k, y, rfl, rfl, HW, hk, hy, rfl⟩ := hrel
    by_cases h0 : y = 0
    · subst h0
      go_wp2
      go_ret
      refine ⟨ret_int ?_, rfl⟩
      rw [HW.out, widthN_zero]
      simp
    · have hp := widthN_pos h0
      have HW2 : Hid (widthN x = (k + 1) + widthN (y / 256)) := Lib.hid (by rw [HW.out]; omega)
      have hk2 : (k + 1) + widthN (y / 256) ≤ 8 := by omega
      clear hp HW
      go_wp2
      go_roundw
      case rel => exact ⟨k + 1, y / 256, by go_num, by go_num, HW2, hk2, by omega, trivial⟩
      case measure => simp [intOf]; omega
theorem rwidth_any {x : Nat} (hx : x < 18446744073709551616) : Calls Try.prog 77 #[.int .u64 x] w fun e w' => e = .returned (.int .i64 (widthN x)) ∧ w = w' := by
  go_enter Try.func77, Try.ntmps77
  go_wp2
  go_loopw [0, 3] (fun u i wr => ∃ (k y : Nat), u = .int .u64 y ∧ i = .int .i64 k ∧ Hid (widthN x = k + widthN y) ∧ k + widthN y ≤ 8 ∧ y < 18446744073709551616 ∧ w = wr) (fun u i _ => (intOf u).toNat)
  case atStart => exact ⟨0, x, rfl, rfl, Lib.hid (by omega), by have := widthN_8 hx; omega, hx, rfl⟩
  case round =>
    obtain ⟨k, y, rfl, rfl, HW, hk, hy, rfl⟩ := hrel
    by_cases h0 : y = 0
    · subst h0
      go_wp2
      go_ret
      refine ⟨ret_int ?_, rfl⟩
      rw [HW.out, widthN_zero]
      simp
    · have hpos : (0 : Int) < (y : Int) := by omega
      have hp := widthN_pos h0
      have HW2 : Hid (widthN x = (k + 1) + widthN (y / 256)) := Lib.hid (by rw [HW.out]; omega)
      have hk2 : (k + 1) + widthN (y / 256) ≤ 8 := by omega
      clear hp HW
      go_wp2
      go_roundw
      case rel => exact ⟨k + 1, y / 256, by go_num, by go_num, HW2, hk2, by omega, trivial⟩
      case measure => simp [intOf]; omega
set_option maxRecDepth 20000 in
set_option maxHeartbeats 400000 in
theorem high_any {B n x c : Nat} {A : Option Addr} {bs : List UInt8} (hB : B ≤ w.heap.size) (h : Own 5 B w A c bs) (hl : bs.length ≤ 70368744177664) (hn : n ≤ 8) (hx : x < 18446744073709551616) :
    Calls Try.prog 66 #[.slice A bs.length c, .int .u64 x, .int .i64 n] w fun e w' => ∃ A' c', e = .returned (.slice A' (bs ++ bigB x n).length c') ∧ Own 5 B w' A' c' (bs ++ bigB x n) ∧ Exc (U8 B) w w' := by
  obtain ⟨i0, hi, hz0, hz1, hz2⟩ := info_parts infoU8
  go_enter Try.func66, Try.ntmps66
  go_wp2
  go_loopw [0, 7] (fun v i wr => ∃ (k d : Nat) (m : Int) (done : List UInt8) (A' : Option Addr) (c' : Nat), v = .slice A' d c' ∧ i = .int .i64 m ∧ m = (k : Int) - 1 ∧ k ≤ n ∧ Hid (d = done.length) ∧ d + k = bs.length + n ∧ Own 5 B wr A' c' done ∧ Hid (done ++ bigB x k = bs ++ bigB x n) ∧ Exc (U8 B) w wr) (fun _ i _ => (intOf i + 1).toNat)
  case atStart => exact ⟨n, bs.length, _, bs, A, c, rfl, rfl, rfl, Nat.le_refl _, Lib.hid rfl, rfl, h, Lib.hid rfl, Exc.of_ext (Below.refl _ _)⟩
  case round =>
    obtain ⟨k, d, m, done, A', c', rfl, rfl, hm, hk, HD, hd, hown, HT, hE⟩ := hrel
    rcases k with _ | j
    · obtain rfl : m = -1 := by omega
      clear hm
      go_wp2
      go_ret
      have e : done = bs ++ bigB x n := by rw [← HT.out]; simp [bigB]
      subst e
      exact ⟨A', c', by rw [HD.out]; rfl, hown, hE⟩
    · obtain rfl : m = (j : Int) := by omega
      clear hm
      have hj8 : j ≤ 8 := by omega
      obtain rfl := HD.out
      have hsz := hE.size
      go_wp2_with (at_builtin; refine wpList_append_own _ rfl _ _ 30 rfl B 5 i0 (.int .u8 0) 1 1 Try.underlying30 hi hz0 hz1 hz2 rfl (by decide) _ _ _ rfl (World.ownsRow.alloc hown _) ⟨wr.heap.size, 0, none⟩ 1 1 [.int .u8 ((x : Int) / 2 ^ (8 * j) % 256)] rfl rfl (cell_one_new _ _ _) (by simp [Value.oneCell']) (by simp [maxLen]; omega) (by omega) (by simp; omega) ?_; intro v' w2 hown2 hgrow2 _)
      obtain ⟨A2, c2, rfl, ho2, hE2⟩ := own_push (b8 ((x / 256 ^ j : Nat) : Int)) hE hown hgrow2 hown2 (b8_shift x j)
      have HT2 : Hid ((done ++ [b8 ((x / 256 ^ j : Nat) : Int)]) ++ bigB x j = bs ++ bigB x n) := Lib.hid (by rw [← HT.out]; simp [bigB])
      clear hgrow2 hown2 hown hE
      go_wp2
      go_roundw
      case rel => exact ⟨j, _, _, _, A2, c2, rfl, rfl, rfl, by omega, Lib.hid rfl, by simp; omega, ho2, HT2, hE2⟩
      case measure => first | (simp [intOf]; done) | (simp [intOf]; omega)
set_option maxRecDepth 20000 in
set_option maxHeartbeats 400000 in
theorem big_any {B n x c : Nat} {A : Option Addr} {bs : List UInt8} (hB : B ≤ w.heap.size) (h : Own 5 B w A c bs) (hl : bs.length ≤ 70368744177664) (hn : n ≤ 8) (hx : x < 18446744073709551616) :
    Calls Try.prog 78 #[.slice A bs.length c, .int .u64 x, .int .i64 n] w fun e w' => ∃ A' c', e = .returned (.slice A' (bs ++ bigB x n).length c') ∧ Own 5 B w' A' c' (bs ++ bigB x n) ∧ Exc (U8 B) w w' := by
  obtain ⟨i0, hi, hz0, hz1, hz2⟩ := info_parts infoU8
  go_enter Try.func78, Try.ntmps78
  go_wp2
  go_loopw [0, 7] (fun v i wr => ∃ (k d : Nat) (m : Int) (done : List UInt8) (A' : Option Addr) (c' : Nat), v = .slice A' d c' ∧ i = .int .i64 m ∧ m = (k : Int) - 1 ∧ k ≤ n ∧ Hid (d = done.length) ∧ d + k = bs.length + n ∧ Own 5 B wr A' c' done ∧ Hid (done ++ bigB x k = bs ++ bigB x n) ∧ Exc (U8 B) w wr) (fun _ i _ => (intOf i + 1).toNat)
  case atStart => exact ⟨n, bs.length, _, bs, A, c, rfl, rfl, rfl, Nat.le_refl _, Lib.hid rfl, rfl, h, Lib.hid rfl, Exc.of_ext (Below.refl _ _)⟩
  case round =>
    obtain ⟨k, d, m, done, A', c', rfl, rfl, hm, hk, HD, hd, hown, HT, hE⟩ := hrel
    rcases k with _ | j
    · obtain rfl : m = -1 := by omega
      clear hm
      go_wp2
      go_ret
      have e : done = bs ++ bigB x n := by rw [← HT.out]; simp [bigB]
      subst e
      exact ⟨A', c', by rw [HD.out]; rfl, hown, hE⟩
    · obtain rfl : m = (j : Int) := by omega
      clear hm
      have hj8 : j ≤ 8 := by omega
      obtain rfl := HD.out
      have hsz := hE.size
      go_wp2_with (at_builtin; refine wpList_append_own _ rfl _ _ 30 rfl B 5 i0 (.int .u8 0) 1 1 Try.underlying30 hi hz0 hz1 hz2 rfl (by decide) _ _ _ rfl (World.ownsRow.alloc hown _) ⟨wr.heap.size, 0, none⟩ 1 1 [.int .u8 ((x : Int) / 2 ^ (8 * j) % 256)] rfl rfl (cell_one_new _ _ _) (by simp [Value.oneCell']) (by simp [maxLen]; omega) (by omega) (by simp; omega) ?_; intro v' w2 hown2 hgrow2 _)
      obtain ⟨A2, c2, rfl, ho2, hE2⟩ := own_push (b8 ((x / 256 ^ j : Nat) : Int)) hE hown hgrow2 hown2 (b8_shift x j)
      have HT2 : Hid ((done ++ [b8 ((x / 256 ^ j : Nat) : Int)]) ++ bigB x j = bs ++ bigB x n) := Lib.hid (by rw [← HT.out]; simp [bigB])
      clear hgrow2 hown2 hown hE
      go_wp2
      go_roundw
      case rel => exact ⟨j, _, _, _, A2, c2, rfl, rfl, rfl, by omega, Lib.hid rfl, by simp; omega, ho2, HT2, hE2⟩
      case measure => first | (simp [intOf]; done) | (simp [intOf]; omega)
end
end Go.Proofs.Ytbjfgnkjmfcokaa
