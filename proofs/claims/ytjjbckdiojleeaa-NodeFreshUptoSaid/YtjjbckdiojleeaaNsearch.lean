/- Contracts of node's and the reference's Search and Route. No condition but that what comes in lies in memory. -/
import Derived.Test.YtjjbckdiojleeaaPage
import Derived.Test.YtjjbckdiojleeaaCopypg
import Derived.Test.YtjjbckdiojleeaaSpane
namespace Go.Proofs.Ytjjbckdiojleeaa
set_option linter.unusedVariables false
open Go.RowKit Go.Proofs
/-- The place of a key. -/
def srchI : List It → List UInt8 → Nat
  | [], _ => 0
  | x :: l, k => if cmpB x.key k < 0 then srchI l k + 1 else 0
def srchB (l : List It) (k : List UInt8) : Bool := match l[srchI l k]? with | some x => eqB x.key k | none => false
def AllLt (l : List It) (k : List UInt8) : Prop := ∀ y ∈ l, cmpB y.key k < 0
theorem srchI_app {pre suf : List It} {k : List UInt8} (h : AllLt pre k) : srchI (pre ++ suf) k = pre.length + srchI suf k := by
  induction pre with
  | nil => simp
  | cons y pre ih =>
    have h1 := h y (by simp)
    have h2 := ih (fun z hz => h z (by simp [hz]))
    simp only [List.cons_append, srchI, h1, if_true, h2, List.length_cons]
    omega
theorem srch_stop {l pre suf : List It} {x : It} {k : List UInt8} (hl : l = pre ++ x :: suf) (h : AllLt pre k) (hx : 0 ≤ cmpB x.key k) : srchI l k = pre.length ∧ srchB l k = eqB x.key k := by
  have h1 : srchI l k = pre.length := by
    rw [hl, srchI_app h, srchI, if_neg (by omega)]
    rfl
  refine ⟨h1, ?_⟩
  unfold srchB
  rw [h1, split_at hl]
theorem srch_end {l : List It} {k : List UInt8} (h : AllLt l k) : srchI l k = l.length ∧ srchB l k = false := by
  have h1 : srchI l k = l.length := by
    have := srchI_app (suf := []) h
    simpa [srchI] using this
  refine ⟨h1, ?_⟩
  unfold srchB
  rw [h1, List.getElem?_eq_none (Nat.le_refl _)]
theorem AllLt.snoc {l : List It} {x : It} {k : List UInt8} (h : AllLt l k) (hx : cmpB x.key k < 0) : AllLt (l ++ [x]) k := fun y hy => by
  rcases List.mem_append.1 hy with hy | hy
  · exact h y hy
  · simp only [List.mem_singleton] at hy; subst hy; exact hx
/-- The way of a key. -/
def routN : List It → List UInt8 → Nat
  | [], _ => 0
  | x :: l, k => if cmpB x.key k ≤ 0 then routN l k + 1 else 0
def routI (l : List It) (k : List UInt8) : Nat := routN (l.drop 1) k
def AllLe (l : List It) (k : List UInt8) : Prop := ∀ y ∈ l, cmpB y.key k ≤ 0
theorem routN_app {pre suf : List It} {k : List UInt8} (h : AllLe pre k) : routN (pre ++ suf) k = pre.length + routN suf k := by
  induction pre with
  | nil => simp
  | cons y pre ih =>
    have h1 := h y (by simp)
    have h2 := ih (fun z hz => h z (by simp [hz]))
    simp only [List.cons_append, routN, h1, if_true, h2, List.length_cons]
    omega
theorem rout_stop {l pre suf : List It} {z x : It} {k : List UInt8} (hl : l = z :: (pre ++ x :: suf)) (h : AllLe pre k) (hx : 0 < cmpB x.key k) : routI l k = pre.length := by
  unfold routI
  rw [hl, List.drop_succ_cons, List.drop_zero, routN_app h, routN, if_neg (by omega)]
  rfl
theorem rout_end {l pre : List It} {z : It} {k : List UInt8} (hl : l = z :: pre) (h : AllLe pre k) : routI l k = pre.length := by
  unfold routI
  have := routN_app (suf := []) h
  rw [hl, List.drop_succ_cons, List.drop_zero]
  simpa [routN] using this
theorem AllLe.snoc {l : List It} {x : It} {k : List UInt8} (h : AllLe l k) (hx : cmpB x.key k ≤ 0) : AllLe (l ++ [x]) k := fun y hy => by
  rcases List.mem_append.1 hy with hy | hy
  · exact h y hy
  · simp only [List.mem_singleton] at hy; subst hy; exact hx
set_option maxHeartbeats 1000000 in
theorem nsearch_any {v : Value} {p : Pg} {A : Option Addr} {c n : Nat} {k : List UInt8} {w : World} (hv : PgV w v p) (hk : Sl w A c k) (hn : n = k.length) :
    Calls Try.prog 15 #[v, .slice A n c] w fun e w' => e = .returned (.tuple #[.int .i64 (srchI p.items k : Nat), .bool (srchB p.items k)]) ∧ Ext w w' := by
  subst hn
  obtain ⟨iA, ic, dA, dc, rfl, hi, hd⟩ := hv.ex
  clear hv hd
  have hil := hi.len
  go_enter Try.func15, Try.ntmps15
  go_wp2
  refine wp_cut (fun W => Ext w W ∧ W.heap[w.heap.size]? = some (.cells #[.int .i64 p.kind, .int .i64 p.level, .slice iA p.items.length ic, .slice dA p.data.length dc, .int .i64 p.next] 26)) ⟨ext_alloc _ _, heap_alloc_new _ _⟩ ?_
  rintro w1 ⟨hE, hb1⟩
  have ea2 : ∀ w', Ext w1 w' → w'.cell? ⟨w.heap.size, 2, none⟩ = some (.slice iA p.items.length ic) := fun w' h => cell_of_row _ _ _ _ _ _ (h.blk hb1)
  clear hb1
  go_loopw [12] (fun i wr => ∃ (pre suf : List It), p.items = pre ++ suf ∧ i = .int .i64 (pre.length : Nat) ∧ AllLt pre k ∧ Ext w1 wr) (fun i _ => p.items.length - (intOf i).toNat)
  case atStart => exact ⟨[], p.items, rfl, rfl, fun y hy => by simp at hy, Below.refl _ _⟩
  case round =>
    obtain ⟨pre, suf, hsp, rfl, hal, hEr⟩ := hrel
    have hEw := hE.trans hEr
    cases suf with
    | nil =>
      rw [List.append_nil] at hsp
      obtain ⟨hs1, hs2⟩ := srch_end (l := p.items) (k := k) (by rw [hsp]; exact hal)
      have H1 := Lib.hid hs1
      have H2 := Lib.hid hs2
      have hle : p.items.length ≤ pre.length := by rw [hsp]; exact Nat.le_refl _
      clear hsp hs1 hs2 hal
      go_wp2
      go_ret2
      exact ⟨by rw [H1.out, H2.out]; rfl, hEw⟩
    | cons x suf =>
      have hx := split_at hsp
      have hlt : pre.length < p.items.length := by rw [hsp]; simp
      obtain ⟨b, o, rfl, hcx⟩ := hi.rd (by omega)
      obtain ⟨kA, kc, vA, vc, x0, x1, x2, x3, xk, xv⟩ := (hcx _ x hx).ext hEw
      have HS := Lib.hid hsp
      clear hx hcx hsp xv
      go_wp2_with (refine wpList_store_box rfl 51 _ _ rfl wr.heap.size _ rfl rfl 51 _ (heap_alloc_new _ _) (by kernel_rfl) rfl (by simp [Value.oneCell']) (fun w4 hb hg => ?_); have hE4 := ext_only (ext_alloc wr _) hg (Nat.le_refl _); have y0 := cell_of_row w4 wr.heap.size 0 _ _ _ hb; simp at y0; clear hb hg)
      by_cases hc : 0 ≤ cmpB x.key k
      · obtain ⟨hs1, hs2⟩ := srch_stop HS.out hal hc
        have H1 := Lib.hid hs1
        have H2 := Lib.hid (hs2.trans (cmpB_zero x.key k).symm)
        clear hs1 hs2 hal
        go_wp2_with fail
        refine (bcmp_any (xk.ext hE4) (hk.ext (hEw.trans hE4)) rfl rfl).mono ?_
        rintro e w5 ⟨rfl, hE5⟩
        go_wp2
        go_ret2
        exact ⟨by rw [H1.out, H2.out]; rfl, hEw.trans (hE4.trans hE5)⟩
      · have hc2 : cmpB x.key k < 0 := by omega
        have HA := Lib.hid (hal.snoc hc2)
        clear hal
        go_wp2_with fail
        refine (bcmp_any (xk.ext hE4) (hk.ext (hEw.trans hE4)) rfl rfl).mono ?_
        rintro e w5 ⟨rfl, hE5⟩
        have hE6 := hEr.trans (hE4.trans hE5)
        go_wp2
        go_roundw
        case rel => exact ⟨pre ++ [x], suf, by rw [HS.out]; simp, by simp, HA.out, hE6⟩
        case measure => simp [intOf]; omega
set_option maxHeartbeats 1000000 in
theorem rsearch_any {v : Value} {p : Pg} {A : Option Addr} {c n : Nat} {k : List UInt8} {w : World} (hv : PgV w v p) (hk : Sl w A c k) (hn : n = k.length) :
    Calls Try.prog 16 #[v, .slice A n c] w fun e w' => e = .returned (.tuple #[.int .i64 (srchI p.items k : Nat), .bool (srchB p.items k)]) ∧ Ext w w' := by
  subst hn
  obtain ⟨iA, ic, dA, dc, rfl, hi, hd⟩ := hv.ex
  clear hv hd
  have hil := hi.len
  go_enter Try.func16, Try.ntmps16
  go_wp2
  refine wp_cut (fun W => Ext w W ∧ W.heap[w.heap.size]? = some (.cells #[.int .i64 p.kind, .int .i64 p.level, .slice iA p.items.length ic, .slice dA p.data.length dc, .int .i64 p.next] 26)) ⟨ext_alloc _ _, heap_alloc_new _ _⟩ ?_
  rintro w1 ⟨hE, hb1⟩
  have ea2 : ∀ w', Ext w1 w' → w'.cell? ⟨w.heap.size, 2, none⟩ = some (.slice iA p.items.length ic) := fun w' h => cell_of_row _ _ _ _ _ _ (h.blk hb1)
  clear hb1
  go_loopw [6] (fun i wr => ∃ (pre suf : List It), p.items = pre ++ suf ∧ i = .int .i64 (pre.length : Nat) ∧ AllLt pre k ∧ Ext w1 wr) (fun i _ => p.items.length - (intOf i).toNat)
  case atStart => exact ⟨[], p.items, rfl, rfl, fun y hy => by simp at hy, Below.refl _ _⟩
  case round =>
    obtain ⟨pre, suf, hsp, rfl, hal, hEr⟩ := hrel
    have hEw := hE.trans hEr
    cases suf with
    | nil =>
      rw [List.append_nil] at hsp
      obtain ⟨hs1, hs2⟩ := srch_end (l := p.items) (k := k) (by rw [hsp]; exact hal)
      have H1 := Lib.hid (hs1.trans (show p.items.length = pre.length by rw [hsp]))
      have H2 := Lib.hid hs2
      have hle : p.items.length ≤ pre.length := by rw [hsp]; exact Nat.le_refl _
      clear hsp hs1 hs2 hal
      go_wp2
      go_ret2
      exact ⟨by rw [H1.out, H2.out]; rfl, hEw⟩
    | cons x suf =>
      have hx := split_at hsp
      have hlt : pre.length < p.items.length := by rw [hsp]; simp
      obtain ⟨b, o, rfl, hcx⟩ := hi.rd (by omega)
      obtain ⟨kA, kc, vA, vc, x0, x1, x2, x3, xk, xv⟩ := (hcx _ x hx).ext hE
      have ex0 : ∀ w', Ext w1 w' → _ := fun w' h => h.cell x0
      have HS := Lib.hid hsp
      clear hx hcx hsp xv x1 x2 x3 x0
      by_cases hc : 0 ≤ cmpB x.key k
      · obtain ⟨hs1, hs2⟩ := srch_stop HS.out hal hc
        have H1 := Lib.hid hs1
        have H2 := Lib.hid hs2
        clear hs1 hs2 hal
        go_wp2_with fail
        refine (cmp_any (xk.ext hEr) (hk.ext hEw) rfl rfl).mono ?_
        rintro e w5 ⟨rfl, hE5⟩
        have hE6 := hEr.trans hE5
        go_wp2_with fail
        refine (eqBytes_any (xk.ext hE6) (hk.ext (hE.trans hE6))).mono ?_
        rintro e w6 ⟨rfl, hE7⟩
        go_wp2
        go_ret2
        exact ⟨by rw [H1.out, H2.out]; rfl, hE.trans (hE6.trans hE7)⟩
      · have hc2 : cmpB x.key k < 0 := by omega
        have HA := Lib.hid (hal.snoc hc2)
        clear hal
        go_wp2_with fail
        refine (cmp_any (xk.ext hEr) (hk.ext hEw) rfl rfl).mono ?_
        rintro e w5 ⟨rfl, hE5⟩
        have hE6 := hEr.trans hE5
        go_wp2
        go_roundw
        case rel => exact ⟨pre ++ [x], suf, by rw [HS.out]; simp, by simp, HA.out, hE6⟩
        case measure => simp [intOf]; omega
/-- A row with an item ahead, cut at a place. -/
def RoutAt (l pre suf : List It) : Prop := (l = [] ∧ pre = [] ∧ suf = []) ∨ ∃ z, l = z :: (pre ++ suf)
set_option maxHeartbeats 1000000 in
theorem nroute_any {v : Value} {p : Pg} {A : Option Addr} {c n : Nat} {k : List UInt8} {w : World} (hv : PgV w v p) (hk : Sl w A c k) (hn : n = k.length) :
    Calls Try.prog 17 #[v, .slice A n c] w fun e w' => e = .returned (.int .i64 (routI p.items k : Nat)) ∧ Ext w w' := by
  subst hn
  obtain ⟨iA, ic, dA, dc, rfl, hi, hd⟩ := hv.ex
  clear hv hd
  have hil := hi.len
  have h0 : ∃ suf, RoutAt p.items [] suf := by
    cases p.items with
    | nil => exact ⟨[], .inl ⟨rfl, rfl, rfl⟩⟩
    | cons z l => exact ⟨l, .inr ⟨z, rfl⟩⟩
  obtain ⟨suf0, hs0⟩ := h0
  go_enter Try.func17, Try.ntmps17
  go_wp2
  refine wp_cut (fun W => Ext w W ∧ W.heap[w.heap.size]? = some (.cells #[.int .i64 p.kind, .int .i64 p.level, .slice iA p.items.length ic, .slice dA p.data.length dc, .int .i64 p.next] 26)) ⟨ext_alloc _ _, heap_alloc_new _ _⟩ ?_
  rintro w1 ⟨hE, hb1⟩
  have ea2 : ∀ w', Ext w1 w' → w'.cell? ⟨w.heap.size, 2, none⟩ = some (.slice iA p.items.length ic) := fun w' h => cell_of_row _ _ _ _ _ _ (h.blk hb1)
  clear hb1
  go_loopw [5] (fun i wr => ∃ (pre suf : List It), RoutAt p.items pre suf ∧ i = .int .i64 ((pre.length + 1 : Nat) : Int) ∧ AllLe pre k ∧ Ext w1 wr) (fun i _ => p.items.length - (intOf i).toNat)
  case atStart => exact ⟨[], suf0, hs0, rfl, fun y hy => by simp at hy, Below.refl _ _⟩
  case round =>
    obtain ⟨pre, suf, hsp, rfl, hal, hEr⟩ := hrel
    have hEw := hE.trans hEr
    rcases hsp with ⟨hl, rfl, rfl⟩ | ⟨z, hl⟩
    · have hl0 : p.items.length ≤ 0 := by rw [hl]; exact Nat.le_refl _
      have H1 := Lib.hid (show routI p.items k = 0 by rw [hl]; rfl)
      clear hl
      go_wp2
      go_ret
      exact ⟨ret_int (by rw [H1.out]; try rfl), hEw⟩
    cases suf with
    | nil =>
      rw [List.append_nil] at hl
      have H1 := Lib.hid (rout_end hl hal)
      have hle : p.items.length ≤ pre.length + 1 := by rw [hl]; simp
      have hge : pre.length + 1 ≤ p.items.length := by rw [hl]; simp
      have HL := Lib.hid (show (p.items.length : Int) - 1 = (pre.length : Int) by rw [hl]; simp)
      clear hl hal
      go_wp2
      go_ret
      exact ⟨ret_int (by rw [H1.out]; have := HL.out; omega), hEw⟩
    | cons x suf =>
      have hx : p.items[pre.length + 1]? = some x := by rw [hl]; simp
      have hlt : pre.length + 1 < p.items.length := by rw [hl]; simp
      obtain ⟨b, o, rfl, hcx⟩ := hi.rd (by omega)
      obtain ⟨kA, kc, vA, vc, x0, x1, x2, x3, xk, xv⟩ := (hcx _ x hx).ext hE
      have ex0 : ∀ w', Ext w1 w' → _ := fun w' h => h.cell x0
      have HS := Lib.hid hl
      clear hx hcx hl xv x1 x2 x3 x0
      by_cases hc : 0 < cmpB x.key k
      · have H1 := Lib.hid (rout_stop HS.out hal hc)
        clear hal
        go_wp2_with fail
        refine (bcmp_any (xk.ext hEr) (hk.ext hEw) rfl rfl).mono ?_
        rintro e w5 ⟨rfl, hE5⟩
        go_wp2
        go_ret
        exact ⟨ret_int (by rw [H1.out]), hEw.trans hE5⟩
      · have hc2 : cmpB x.key k ≤ 0 := by omega
        have HA := Lib.hid (hal.snoc hc2)
        clear hal
        go_wp2_with fail
        refine (bcmp_any (xk.ext hEr) (hk.ext hEw) rfl rfl).mono ?_
        rintro e w5 ⟨rfl, hE5⟩
        have hE6 := hEr.trans hE5
        go_wp2
        go_roundw
        case rel => exact ⟨pre ++ [x], suf, .inr ⟨z, by rw [HS.out]; simp⟩, by simp, HA.out, hE6⟩
        case measure => simp [intOf]; omega
set_option maxHeartbeats 1000000 in
theorem rroute_any {v : Value} {p : Pg} {A : Option Addr} {c n : Nat} {k : List UInt8} {w : World} (hv : PgV w v p) (hk : Sl w A c k) (hn : n = k.length) :
    Calls Try.prog 18 #[v, .slice A n c] w fun e w' => e = .returned (.int .i64 (routI p.items k : Nat)) ∧ Ext w w' := by
  subst hn
  obtain ⟨iA, ic, dA, dc, rfl, hi, hd⟩ := hv.ex
  clear hv hd
  have hil := hi.len
  have h0 : ∃ suf, RoutAt p.items [] suf := by
    cases p.items with
    | nil => exact ⟨[], .inl ⟨rfl, rfl, rfl⟩⟩
    | cons z l => exact ⟨l, .inr ⟨z, rfl⟩⟩
  obtain ⟨suf0, hs0⟩ := h0
  go_enter Try.func18, Try.ntmps18
  go_wp2
  refine wp_cut (fun W => Ext w W ∧ W.heap[w.heap.size]? = some (.cells #[.int .i64 p.kind, .int .i64 p.level, .slice iA p.items.length ic, .slice dA p.data.length dc, .int .i64 p.next] 26)) ⟨ext_alloc _ _, heap_alloc_new _ _⟩ ?_
  rintro w1 ⟨hE, hb1⟩
  have ea2 : ∀ w', Ext w1 w' → w'.cell? ⟨w.heap.size, 2, none⟩ = some (.slice iA p.items.length ic) := fun w' h => cell_of_row _ _ _ _ _ _ (h.blk hb1)
  clear hb1
  go_loopw [5] (fun i wr => ∃ (pre suf : List It), RoutAt p.items pre suf ∧ i = .int .i64 (pre.length : Nat) ∧ AllLe pre k ∧ Ext w1 wr) (fun i _ => p.items.length - (intOf i).toNat)
  case atStart => exact ⟨[], suf0, hs0, rfl, fun y hy => by simp at hy, Below.refl _ _⟩
  case round =>
    obtain ⟨pre, suf, hsp, rfl, hal, hEr⟩ := hrel
    have hEw := hE.trans hEr
    rcases hsp with ⟨hl, rfl, rfl⟩ | ⟨z, hl⟩
    · have hl0 : p.items.length ≤ 0 := by rw [hl]; exact Nat.le_refl _
      have H1 := Lib.hid (show routI p.items k = 0 by rw [hl]; rfl)
      clear hl
      go_wp2
      go_ret
      exact ⟨ret_int (by rw [H1.out]; try rfl), hEw⟩
    cases suf with
    | nil =>
      rw [List.append_nil] at hl
      have H1 := Lib.hid (rout_end hl hal)
      have hle : p.items.length ≤ pre.length + 1 := by rw [hl]; simp
      have hge : pre.length + 1 ≤ p.items.length := by rw [hl]; simp
      clear hl hal
      go_wp2
      go_ret
      exact ⟨ret_int (by rw [H1.out]; try rfl), hEw⟩
    | cons x suf =>
      have hx : p.items[pre.length + 1]? = some x := by rw [hl]; simp
      have hlt : pre.length + 1 < p.items.length := by rw [hl]; simp
      obtain ⟨b, o, rfl, hcx⟩ := hi.rd (by omega)
      obtain ⟨kA, kc, vA, vc, x0, x1, x2, x3, xk, xv⟩ := (hcx _ x hx).ext hE
      have ex0 : ∀ w', Ext w1 w' → _ := fun w' h => h.cell x0
      have HS := Lib.hid hl
      clear hx hcx hl xv x1 x2 x3 x0
      by_cases hc : 0 < cmpB x.key k
      · have H1 := Lib.hid (rout_stop HS.out hal hc)
        clear hal
        go_wp2_with fail
        refine (cmp_any (xk.ext hEr) (hk.ext hEw) rfl rfl).mono ?_
        rintro e w5 ⟨rfl, hE5⟩
        go_wp2
        go_ret
        exact ⟨ret_int (by rw [H1.out]), hEw.trans hE5⟩
      · have hc2 : cmpB x.key k ≤ 0 := by omega
        have HA := Lib.hid (hal.snoc hc2)
        clear hal
        go_wp2_with fail
        refine (cmp_any (xk.ext hEr) (hk.ext hEw) rfl rfl).mono ?_
        rintro e w5 ⟨rfl, hE5⟩
        have hE6 := hEr.trans hE5
        go_wp2
        go_roundw
        case rel => exact ⟨pre ++ [x], suf, .inr ⟨z, by rw [HS.out]; simp⟩, by simp, HA.out, hE6⟩
        case measure => simp [intOf]; omega
end Go.Proofs.Ytjjbckdiojleeaa
