/- Layer 5: the document's sets in memory. No condition. -/
import Derived.Test.YtffapgemacbdjaaIter
import Derived.Test.YtffapgemacbdjaaRnp
import Derived.Test.YtffapgemacbdjaaRefa
import Derived.Test.YtffapgemacbdjaaMild
import Derived.Test.YtffapgemacbdjaaAparw
import Derived.Test.YtffapgemacbdjaaRnorm
import Derived.WalkLawsBesides
namespace Go.Proofs.Ytffapgemacbdjaa
open Go.RowKit Go.Proofs Go.Shelf
set_option linter.unusedVariables false
attribute [local go_sem] Oper.semAt_some
abbrev rcr (r : Rn) : List Value := [.int .i64 r.lo, .int .i64 r.hi]
def Bdr (r : Rn) : Prop := (-32768 ≤ r.lo ∧ r.lo ≤ 4294967295) ∧ (-32768 ≤ r.hi ∧ r.hi ≤ 4294967295)
/-- A row of runs of the call's own. -/
def RowRr (B : Nat) (w : World) (A : Option Addr) (c : Nat) (L : List Rn) : Prop := w.ownsRow B 26 2 (.slice A L.length c) L.length (L.flatMap rcr)
theorem rlenr (L : List Rn) : (L.flatMap rcr).length = L.length * 2 := by
  induction L with
  | nil => rfl
  | cons x l ih => rw [List.flatMap_cons, List.length_append, ih]; simp; omega
theorem ratr : ∀ (L : List Rn) (k : Nat) (r : Rn), L[k]? = some r → (L.flatMap rcr)[k * 2]? = some (.int .i64 r.lo) ∧ (L.flatMap rcr)[k * 2 + 1]? = some (.int .i64 r.hi)
  | [], k, r, h => by simp at h
  | x :: l, 0, r, h => by
    simp only [List.getElem?_cons_zero, Option.some.injEq] at h
    subst h
    exact ⟨rfl, rfl⟩
  | x :: l, k + 1, r, h => by
    have := ratr l k r (by simpa using h)
    rw [List.flatMap_cons]
    rw [show (k + 1) * 2 = (rcr x).length + k * 2 by simp; omega, show (rcr x).length + k * 2 + 1 = (rcr x).length + (k * 2 + 1) by omega]
    rw [List.getElem?_append_right (by omega), List.getElem?_append_right (by omega)]
    simpa using this
theorem RowRr.at {B : Nat} {w : World} {A : Option Addr} {c : Nat} {L : List Rn} (h : RowRr B w A c L) {k : Nat} {r : Rn} (hr : L[k]? = some r) : ∃ g, A = some ⟨g, 0, none⟩ ∧ L.length ≤ c ∧ B ≤ g ∧ w.cell? ⟨g, k * 2, none⟩ = some (.int .i64 r.lo) ∧ w.cell? ⟨g, k * 2 + 1, none⟩ = some (.int .i64 r.hi) := by
  have hk := (List.getElem?_eq_some_iff.1 hr).1
  rcases h.2 with ⟨hv, h0⟩ | ⟨g, cap, cur, hv, hb, hg, hle, _⟩
  · omega
  · injection hv with h1 h2 h3
    subst h1 h3
    obtain ⟨a1, a2⟩ := ratr L k r hr
    refine ⟨g, rfl, hle, hb, ?_, ?_⟩
    · rw [World.ownsRow.cellAt h _ (by omega), a1]
    · rw [World.ownsRow.cellAt h _ (by omega), a2]
theorem RowRr.ext {B : Nat} {w w' : World} {A : Option Addr} {c : Nat} {L : List Rn} (h : RowRr B w A c L) (he : Ext w w') : RowRr B w' A c L := by
  refine ⟨h.1, ?_⟩
  rcases h.2 with h0 | ⟨g, cap, cur, hv, hb, hg, r⟩
  · exact .inl h0
  · exact .inr ⟨g, cap, cur, hv, hb, he.blk hg, r⟩
theorem RowRr.round {B C : Nat} {Dk : Nat → Prop} {w w' : World} {A : Option Addr} {c : Nat} {L : List Rn} (h : RowRr B w A c L) (he : RoundX Dk C w w') (hd : ∀ q, (Value.slice A L.length c).ownBlock = some q → ¬ Dk q) : RowRr B w' A c L := by
  refine ⟨h.1, ?_⟩
  rcases h.2 with h0 | ⟨g, cap, cur, hv, hb, hg, r⟩
  · exact .inl h0
  · exact .inr ⟨g, cap, cur, hv, hb, he.cells hg (hd g (by rw [hv]; rfl)), r⟩
/-- A set in memory: its block p holds the header of its row. -/
structure SetAtr (B p : Nat) (A : Option Addr) (c : Nat) (w : World) (L : List Rn) : Prop where
  hd : w.heap[p]? = some (.cells #[.slice A L.length c] 87 (0, 0))
  row : RowRr B w A c L
  wf : WfR L
  bd : ∀ r ∈ L, Bdr r
theorem SetAtr.ext {B p c : Nat} {A : Option Addr} {w w' : World} {L : List Rn} (h : SetAtr B p A c w L) (he : Ext w w') : SetAtr B p A c w' L := ⟨he.blk h.hd, h.row.ext he, h.wf, h.bd⟩
theorem SetAtr.round {B p c C : Nat} {Dk : Nat → Prop} {A : Option Addr} {w w' : World} {L : List Rn} (h : SetAtr B p A c w L) (he : RoundX Dk C w w') (hp : ¬ Dk p) (hd : ∀ q, (Value.slice A L.length c).ownBlock = some q → ¬ Dk q) : SetAtr B p A c w' L :=
  ⟨he.cells h.hd hp, h.row.round he hd, h.wf, h.bd⟩
/-- One run more onto a row of the call's own. -/
theorem push1r {B : Nat} {w w3 : World} {A : Option Addr} {c : Nat} {ll : List Rn} {x : Rn} {v' : Value} (h : RowRr B w A c ll) (ho3 : w3.ownsRow B 26 2 v' (ll.length + 1) (ll.flatMap rcr ++ [.int .i64 x.lo, .int .i64 x.hi]))
    (hc3 : (∃ A' c', Value.slice A ll.length c = .slice A' ll.length c' ∧ v' = .slice A' (ll.length + 1) c' ∧ w.grownBy w3 (Value.slice A ll.length c).ownBlock) ∨ (w.grownBy w3 none ∧ ∀ g, v'.ownBlock = some g → w.heap.size ≤ g)) :
    ∃ A3 c3, v' = .slice A3 (ll.length + 1) c3 ∧ RowRr B w3 A3 c3 (ll ++ [x]) ∧ Exc (fun q _ => B ≤ q ∧ (Value.slice A ll.length c).ownBlock = some q) w w3 := by
  have hex : Exc (fun q _ => B ≤ q ∧ (Value.slice A ll.length c).ownBlock = some q) w w3 := by
    rcases hc3 with ⟨A', c', e, _, hg⟩ | ⟨hg, _⟩
    · exact Exc.of_grown hg (fun g o h1 _ => ⟨(World.ownsRow.lt h g h1).1, h1⟩)
    · exact Exc.of_grown hg (fun g o h1 _ => by cases h1)
  obtain ⟨A3, c3, rfl⟩ := slice_of_own ho3
  refine ⟨A3, c3, rfl, ?_, hex⟩
  unfold RowRr
  rw [List.length_append, List.flatMap_append]
  exact ho3
theorem roner (L : List Rn) : ∀ u ∈ L.flatMap rcr, u.oneCell' = true := by
  intro u hu
  obtain ⟨r, _, hr⟩ := List.mem_flatMap.1 hu
  simp only [List.mem_cons, List.not_mem_nil, or_false] at hr
  rcases hr with rfl | rfl <;> rfl
theorem RowRr.slice0 {B : Nat} {w : World} {A : Option Addr} {c : Nat} {L : List Rn} (h : RowRr B w A c L) : L.length ≤ c ∧ (A = none → L = [] ∧ c = 0) ∧ (∀ a, A = some a → ∃ g, a = ⟨g, 0, none⟩ ∧ ∀ j u, (L.flatMap rcr)[j]? = some u → w.cell? ((⟨g, 0, none⟩ : Addr).add j) = some u) := by
  rcases h.2 with ⟨hv, h0⟩ | ⟨g, cap, cur, hv, hb, hg, hle, _⟩
  · injection hv with h1 h2 h3
    subst h1 h3
    exact ⟨by omega, fun _ => ⟨List.length_eq_zero_iff.1 h0, rfl⟩, fun a ha => by cases ha⟩
  · injection hv with h1 h2 h3
    subst h1 h3
    refine ⟨hle, fun h => (by cases h), fun a ha => ?_⟩
    injection ha with ha
    exact ⟨g, ha.symm, fun j u hu => World.ownsRow.cells h (g := g) rfl j u hu⟩
theorem infoRr : (Try.prog.info? 26).map (fun i => (i.zero, i.size, i.bytes)) = some (some (.agg #[.int .i64 0, .int .i64 0]), 2, 16) := by kernel_rfl
theorem eqRr (x y : Rn) (w : World) : (Op.equalIn 10000 26 (.agg #[.int .i64 x.lo, .int .i64 x.hi]) (.agg #[.int .i64 y.lo, .int .i64 y.hi])).run Try.prog w = .ok (decide (x = y)) w := by
  have u3 := Try.underlying3
  have hS : Try.prog.underlying 26 = some (.struct (Try.prog.fieldsOf 26)) := by kernel_rfl
  have hp : Try.prog.stoodInHeld 26 = false := by kernel_rfl
  obtain ⟨a, b⟩ := x
  obtain ⟨c, d⟩ := y
  rw [show (10000 : Nat) = 9999 + 1 from rfl, run_equalIn_agg w 9999 26 _ _ hS hp]
  simp only [Program.fieldsOf, Try.underlying26]
  go_simp
  by_cases h1 : a = c
  · by_cases h2 : b = d <;> simp [h1, h2]
  · simp [h1]
theorem neqRr (x y : Rn) (w : World) : (binOp .neq 26 (.agg #[.int .i64 x.lo, .int .i64 x.hi]) (.agg #[.int .i64 y.lo, .int .i64 y.hi])).run Try.prog w = .ok (.bool (!decide (x = y))) w := by
  rw [run_neq_struct, eqRr]
  rfl
/-- A row of runs that can be read. -/
theorem RowRr.read {B : Nat} {w : World} {A : Option Addr} {c : Nat} {L : List Rn} (h : RowRr B w A c L) {k : Nat} {x : Rn} (hx : L[k]? = some x) : ∃ g, A = some ⟨g, 0, none⟩ ∧ k < c ∧ ∀ W, Ext w W → W.cell? ⟨g, k * 2, none⟩ = some (.int .i64 x.lo) ∧ W.cell? ⟨g, k * 2 + 1, none⟩ = some (.int .i64 x.hi) := by
  obtain ⟨g, rfl, hlc, hBg, c0, c1⟩ := h.at hx
  have hk := (List.getElem?_eq_some_iff.1 hx).1
  refine ⟨g, rfl, by omega, fun W hW => ?_⟩
  obtain ⟨g2, e, _, _, h1, h2⟩ := (h.ext hW).at hx
  injection e with e; injection e with e; subst e
  exact ⟨h1, h2⟩
theorem inb_of_bd {L : List Rn} (h : ∀ r ∈ L, Bdr r) : InB (-32768) 4295000064 L := fun r hr => by
  obtain ⟨⟨a, b⟩, c, d⟩ := h r hr
  omega
theorem cnt_bd {L : List Rn} (hw : WfR L) (h : ∀ r ∈ L, Bdr r) : 0 ≤ cnt L ∧ cnt L ≤ 4295000064 := by
  have e := cnt_eq hw (inb_of_bd h)
  have := numC_le (hasB L) (-32768) 4295000064
  omega
theorem wf_take {L : List Rn} (hw : WfR L) (k : Nat) : WfR (L.take k) := by
  rw [← List.take_append_drop k L] at hw
  exact (wf_split hw).1
theorem cnt_app : ∀ (L M : List Rn), cnt (L ++ M) = cnt L + cnt M
  | [], M => by simp [cnt]
  | r :: L, M => by
    simp only [List.cons_append, cnt, cnt_app L M]
    omega
theorem cnt_snoc {L : List Rn} {k : Nat} {x : Rn} (h : L[k]? = some x) : cnt (L.take (k + 1)) = cnt (L.take k) + (x.hi - x.lo + 1) := by
  obtain ⟨h1, rfl⟩ := List.getElem?_eq_some_iff.1 h
  rw [List.take_succ_eq_append_getElem h1, cnt_app]
  simp [cnt]
theorem cnt_pos {L : List Rn} (hw : WfR L) (h : L ≠ []) : 0 < cnt L := by
  cases L with
  | nil => exact absurd rfl h
  | cons r L =>
    have := hw.1
    have := cnt_nonneg (fun s hs => hw.2.2.each s hs)
    simp only [cnt]
    omega
set_option maxRecDepth 100000 in
set_option maxHeartbeats 1000000 in
theorem many_any {B c : Nat} {A : Option Addr} {L : List Rn} {w : World} (hr : RowRr B w A c L) (hw : WfR L) (hb : ∀ r ∈ L, Bdr r) (hl : L.length ≤ 1000000) :
    Calls Try.prog 122 #[.slice A L.length c] w fun e w' => e = .returned (.tuple #[.int .u64 (cnt L), .bool false]) ∧ Ext w w' := by
  obtain ⟨z, hz⟩ : ∃ z, cnt L = z := ⟨_, rfl⟩
  have hz0 := cnt_bd hw hb
  rw [hz] at hz0 ⊢
  have HZZ := Lib.hid hz
  clear hz
  go_enter Try.func122, Try.ntmps122
  go_wp2
  go_loopw [2, 4] (fun nv iv wr => ∃ (k : Nat) (n : Int), k ≤ L.length ∧ iv = .int .i64 k ∧ nv = .int .u64 n ∧ Hid (cnt (L.take k) = n) ∧ 0 ≤ n ∧ n ≤ 4295000064 ∧ Ext w wr) (fun _ iv _ => L.length - (intOf iv).toNat)
  case atStart => exact ⟨0, 0, Nat.zero_le _, rfl, rfl, Lib.hid rfl, by decide, by decide, Below.refl _ _⟩
  case round =>
    obtain ⟨k, n, hk, rfl, rfl, HN, hn0, hn1, hE⟩ := hrel
    by_cases hlt : k < L.length
    · obtain ⟨x, hx⟩ : ∃ x, L[k]? = some x := ⟨_, List.getElem?_eq_getElem hlt⟩
      obtain ⟨g, rfl, hkc, hcx⟩ := (hr.ext hE).read hx
      have hbx := hb x (List.mem_of_getElem? hx)
      have hwx := hw.each x (List.mem_of_getElem? hx)
      have hcs := cnt_snoc hx
      rw [HN.out] at hcs
      have hcb := cnt_bd (wf_take hw (k + 1)) (fun r hr => hb r (List.mem_of_mem_take hr))
      rw [hcs] at hcb
      have HCS := Lib.hid hcs
      obtain ⟨xl, xh⟩ := x
      obtain ⟨⟨b1, b2⟩, b3, b4⟩ := hbx
      simp only at b1 b2 b3 b4 hwx hcb hcx
      have x0 : ∀ W, Ext wr W → W.cell? ⟨g, k * 2, none⟩ = some (.int .i64 xl) := fun W h => (hcx W h).1
      have x1 : ∀ W, Ext wr W → W.cell? ⟨g, k * 2 + 1, none⟩ = some (.int .i64 xh) := fun W h => (hcx W h).2
      have hw1 : IntKind.u64.wrap (IntKind.u64.wrap xh - IntKind.u64.wrap xl) = xh - xl := by
        simp only [IntKind.wrap_u64]; omega
      have hw2 : IntKind.u64.wrap (xh - xl + 1) = xh - xl + 1 := by
        simp only [IntKind.wrap_u64]; omega
      have hw3 : IntKind.u64.wrap (n + (xh - xl + 1)) = n + (xh - xl + 1) := by
        simp only [IntKind.wrap_u64]; omega
      clear hcs hcx hx HN
      go_wp2
      refine wp_region_rg Ext rel_ext (fun _ => True) [0, 1, 2, 3, 4, 5, 6, 7, 8, 9, 10, 11, 12, 13, 14, 15, 16] (fun _ => none) (fun _ => none) (fun _ => false) (by kernel_rfl) (by kernel_rfl) (fun _ _ _ _ => trivial) trivial (fun W N hW _ hN => ?_)
      have hEW := hW
      repeat (first | (apply wpR_one; (case ho => (simp only [List.getElem?_toArray, List.getElem?_cons_succ, List.getElem?_cons_zero]; try exact rfl)); (case hw => rfl); (case hl => rfl); (case hsp => rfl); (case he => rfl); (case hv => (intro w' hw'; (try (have hw2 := Ext.trans hEW hw')); (try (have hw3 := Exc.trans hEW hw')); (try (have hw4 := Exk.trans hEW hw')); (try (have hw5 := Mrk.trans hEW hw')); go_simp; exact rfl)); (case hw0 => (first | exact Below.refl _ _ | exact Exc.of_ext (Below.refl _ _) | exact Exk.of_ext (Below.refl _ _) | exact Mrk.of_ext (Below.refl _ _))); simp only [Act.put, List.setIfInBounds_toArray, List.set_cons_succ, List.set_cons_zero]) | (apply wpR_early; (case ho => (simp only [List.getElem?_toArray, List.getElem?_cons_succ, List.getElem?_cons_zero]; try exact rfl)); (case hw => rfl); (case hl => rfl); (case hsp => rfl); (case he => rfl); (case hv => (intro w' hw'; (try have hw2 := Ext.trans hEW hw'); go_simp; exact rfl)); simp only [Act.put, List.setIfInBounds_toArray, List.set_cons_succ, List.set_cons_zero]) | (apply wpR_pass; (case ho => (simp only [List.getElem?_toArray, List.getElem?_cons_succ, List.getElem?_cons_zero]; try exact rfl)); (case hw => rfl); (case hl => rfl); simp only [Act.put, List.setIfInBounds_toArray, List.set_cons_succ, List.set_cons_zero]))
      apply wpR_nil
      apply hN
      intro w' hE' hK _
      have hE2 := (hE.trans hEW).trans hE'
      clear hK hN x0 x1 hW hEW hE' hw1 hw2 hw3 hE
      go_wp2
      go_roundw
      case rel => exact ⟨k + 1, n + (xh - xl + 1), by omega, by go_num, rfl, Lib.hid HCS.out, by omega, by omega, hE2⟩
      case measure => simp [intOf]; omega
    · obtain rfl : k = L.length := by omega
      have hnz : n = z := by have := HN.out; rw [List.take_length] at this; rw [← this, HZZ.out]
      subst hnz
      by_cases h0 : L.length = 0
      · have h0' : L = [] := List.length_eq_zero_iff.1 h0
        have hn : n = 0 := by rw [← HZZ.out, h0']; rfl
        subst hn
        clear HN HZZ
        rw [h0] at *
        go_wp2
        refine bodyPost_ret (results_tmp2 rfl _ _ _) rfl ?_
        exact ⟨rfl, hE⟩
      · have hn : 0 < n := by
          rw [← HZZ.out]; exact cnt_pos hw (fun e => h0 (by rw [e]; rfl))
        have hn' : ¬ n = 0 := by omega
        clear HN HZZ
        go_wp2
        refine bodyPost_ret (results_tmp2 rfl _ _ _) rfl ?_
        exact ⟨rfl, hE⟩
theorem told_any {n : Int} {w : World} (h : 0 ≤ n ∧ n ≤ 9223372036854775807) :
    Calls Try.prog 124 #[.int .u64 n, .bool false] w fun e w' => e = .returned (.int .i64 n) ∧ w = w' := by
  have h1 : ¬ 9223372036854775807 < n := by omega
  have hw64 : IntKind.i64.wrap n = n := by rw [IntKind.wrap_i64]; omega
  go_enter Try.func124, Try.ntmps124
  go_wp2
  go_ret
  exact ⟨rfl, rfl⟩
theorem rlen_any {B p c : Nat} {A : Option Addr} {L : List Rn} {w : World} (hS : SetAtr B p A c w L) (hl : L.length ≤ 1000000) :
    Calls Try.prog 66 #[.pointer (some ⟨p, 0, none⟩)] w fun e w' => e = .returned (.int .i64 (cnt L)) ∧ Ext w w' := by
  have q1 := cell_of_row w p 0 _ _ _ hS.hd
  simp only [List.getElem?_toArray, List.getElem?_cons_zero] at q1
  have hz0 := cnt_bd hS.wf hS.bd
  go_enter Try.func66, Try.ntmps66
  go_wp2_with fail
  refine (many_any hS.row hS.wf hS.bd hl).mono ?_
  rintro e w2 ⟨rfl, hE⟩
  go_wp2_with fail
  refine (told_any ⟨hz0.1, by omega⟩).mono ?_
  rintro e w3 ⟨rfl, rfl⟩
  go_wp2
  go_ret
  exact ⟨rfl, hE⟩
theorem rlow_any {B p c : Nat} {A : Option Addr} {L : List Rn} {w : World} (hS : SetAtr B p A c w L) (hl : L.length ≤ 1000000) :
    Calls Try.prog 68 #[.pointer (some ⟨p, 0, none⟩)] w fun e w' => e = .returned (.tuple #[.int .i64 (lowL L).1, .bool (lowL L).2]) ∧ w = w' := by
  have q1 := cell_of_row w p 0 _ _ _ hS.hd
  simp only [List.getElem?_toArray, List.getElem?_cons_zero] at q1
  cases L with
  | nil =>
    go_enter Try.func68, Try.ntmps68
    go_wp2
    refine bodyPost_ret (results_tmp2 rfl _ _ _) rfl ?_
    exact ⟨rfl, rfl⟩
  | cons x L =>
    obtain ⟨g, rfl, hlc, hBg, cx0, cx1⟩ := hS.row.at (k := 0) rfl
    have hc : 0 < c := by simp at hlc; omega
    have hne : ¬ ((x :: L).length : Int) = 0 := by simp; omega
    have hlp : 0 < (x :: L).length := by simp
    generalize hn : (x :: L).length = n at *
    have HN := Lib.hid hn
    clear hn
    rw [Nat.zero_mul] at cx0 cx1
    go_enter Try.func68, Try.ntmps68
    go_wp2
    refine bodyPost_ret (results_tmp2 rfl _ _ _) rfl ?_
    exact ⟨rfl, rfl⟩
set_option maxRecDepth 100000 in
set_option maxHeartbeats 1000000 in
theorem rhas_any {B p c : Nat} {A : Option Addr} {L : List Rn} {x : Int} {w : World} (hS : SetAtr B p A c w L) (hl : L.length ≤ 1000000) :
    Calls Try.prog 64 #[.pointer (some ⟨p, 0, none⟩), .int .i64 x] w fun e w' => e = .returned (.bool (hasB L x)) ∧ w = w' := by
  obtain ⟨d, hd⟩ : ∃ d, hasB L x = d := ⟨_, rfl⟩
  have HD := Lib.hid hd
  rw [hd]
  clear hd
  have q1 := cell_of_row w p 0 _ _ _ hS.hd
  simp only [List.getElem?_toArray, List.getElem?_cons_zero] at q1
  go_enter Try.func64, Try.ntmps64
  go_wp2
  go_loopw [5] (fun iv wr => ∃ k : Nat, k ≤ L.length ∧ iv = .int .i64 k ∧ Hid (hasB (L.take k) x = false) ∧ w = wr) (fun iv _ => L.length - (intOf iv).toNat)
  case atStart => exact ⟨0, Nat.zero_le _, rfl, Lib.hid rfl, rfl⟩
  case round =>
    obtain ⟨k, hk, rfl, HT, rfl⟩ := hrel
    by_cases hlt : k < L.length
    · obtain ⟨y, hy⟩ : ∃ y, L[k]? = some y := ⟨_, List.getElem?_eq_getElem hlt⟩
      obtain ⟨g, rfl, hlc, hBg, c0, c1⟩ := hS.row.at hy
      have hkc : k < c := by omega
      have HY := Lib.hid hy
      clear hy
      by_cases h1 : y.lo ≤ x
      · by_cases h2 : x ≤ y.hi
        · have hdt : d = true := by
            rw [← HD.out, hasB_iff]
            exact ⟨y, List.mem_of_getElem? HY.out, h1, h2⟩
          subst hdt
          go_wp2
          go_ret
          exact ⟨rfl, rfl⟩
        · have HT2 : Hid (hasB (L.take (k + 1)) x = false) := Lib.hid (by
            obtain ⟨e1, e2⟩ := List.getElem?_eq_some_iff.1 HY.out
            have := HT.out
            unfold hasB at this ⊢
            rw [List.take_succ_eq_append_getElem e1, List.any_append, this, e2]
            simp only [List.any_cons, List.any_nil, Bool.or_false, Bool.false_or]
            exact decide_eq_false (by omega))
          go_wp2
          go_roundw
          case rel => exact ⟨k + 1, by omega, by go_num, HT2, trivial⟩
          case measure => simp [intOf]; omega
      · have HT2 : Hid (hasB (L.take (k + 1)) x = false) := Lib.hid (by
          obtain ⟨e1, e2⟩ := List.getElem?_eq_some_iff.1 HY.out
          have := HT.out
          unfold hasB at this ⊢
          rw [List.take_succ_eq_append_getElem e1, List.any_append, this, e2]
          simp only [List.any_cons, List.any_nil, Bool.or_false, Bool.false_or]
          exact decide_eq_false (by omega))
        go_wp2
        go_roundw
        case rel => exact ⟨k + 1, by omega, by go_num, HT2, trivial⟩
        case measure => simp [intOf]; omega
    · obtain rfl : k = L.length := by omega
      have hdf : d = false := by rw [← HD.out]; have := HT.out; rwa [List.take_length] at this
      subst hdf
      go_wp2
      go_ret
      exact ⟨rfl, rfl⟩
end Go.Proofs.Ytffapgemacbdjaa
