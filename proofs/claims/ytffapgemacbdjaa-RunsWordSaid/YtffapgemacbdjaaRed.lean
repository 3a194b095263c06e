/- Package runs, at uint16: Of, Runs, Same, Len. No condition but the bounds of the kind and of the sizes. -/
import Derived.Test.YtffapgemacbdjaaRdd
import Derived.WalkLawsBesides
namespace Go.Proofs.Ytffapgemacbdjaa
open Go.RowKit Go.Proofs Go.Shelf
set_option linter.unusedVariables false
theorem add_noned {p : Value} {lo hi : Int} {w : World} (hle : ¬ lo ≤ hi) : Calls Try.prog 105 #[p, .int .u16 lo, .int .u16 hi] w fun e w' => e = .returned (.int .i64 0) ∧ w = w' := by
  have h : hi < lo := by omega
  go_enter Try.func105, Try.ntmps105
  go_wp2
  go_ret
  exact ⟨rfl, rfl⟩
theorem add_allFd {B p c : Nat} {A : Option Addr} {L : List Rn} {lo hi : Int} {w : World} (hS : SetAtd B p A c w L) (hl : L.length ≤ 1000000) (hb : Bdd ⟨lo, hi⟩) (hpB : B ≤ p) (hBw : B ≤ w.heap.size) :
    Calls Try.prog 105 #[.pointer (some ⟨p, 0, none⟩), .int .u16 lo, .int .u16 hi] w fun e w' => ∃ A' c', e = .returned (.int .i64 (addN L ⟨lo, hi⟩)) ∧ SetAtd B p A' c' w' (addL L ⟨lo, hi⟩) ∧ Exc (fun q _ => q = p) w w' ∧ (RowRd w.heap.size w' A' c' (addL L ⟨lo, hi⟩) ∨ (A' = A ∧ c' = c ∧ addL L ⟨lo, hi⟩ = L)) := by
  by_cases h : lo ≤ hi
  · have e1 : addN L ⟨lo, hi⟩ = (gapsL (withinL L ⟨lo, hi⟩) ⟨lo, hi⟩).foldl withZ 0 := if_pos h
    rw [e1]
    exact (add_anyFd hS hl hb hpB hBw h).mono fun e w' ⟨A', c', h1, h2, h3, h4⟩ => ⟨A', c', h1, h2, h3, .inl h4⟩
  · have e1 : addN L ⟨lo, hi⟩ = 0 := if_neg h
    have e2 : addL L ⟨lo, hi⟩ = L := if_neg h
    rw [e1, e2]
    refine (add_noned h).mono ?_
    rintro e w' ⟨rfl, rfl⟩
    exact ⟨A, c, rfl, hS, exc_refl _ _, .inr ⟨rfl, rfl, rfl⟩⟩
theorem add_alld {B p c : Nat} {A : Option Addr} {L : List Rn} {lo hi : Int} {w : World} (hS : SetAtd B p A c w L) (hl : L.length ≤ 1000000) (hb : Bdd ⟨lo, hi⟩) (hpB : B ≤ p) (hBw : B ≤ w.heap.size) :
    Calls Try.prog 105 #[.pointer (some ⟨p, 0, none⟩), .int .u16 lo, .int .u16 hi] w fun e w' => ∃ A' c', e = .returned (.int .i64 (addN L ⟨lo, hi⟩)) ∧ SetAtd B p A' c' w' (addL L ⟨lo, hi⟩) ∧ Exc (fun q _ => q = p) w w' := by
  by_cases h : lo ≤ hi
  · have e1 : addN L ⟨lo, hi⟩ = (gapsL (withinL L ⟨lo, hi⟩) ⟨lo, hi⟩).foldl withZ 0 := if_pos h
    rw [e1]
    exact add_anyd hS hl hb hpB hBw h
  · have e1 : addN L ⟨lo, hi⟩ = 0 := if_neg h
    have e2 : addL L ⟨lo, hi⟩ = L := if_neg h
    rw [e1, e2]
    refine (add_noned h).mono ?_
    rintro e w' ⟨rfl, rfl⟩
    exact ⟨A, c, rfl, hS, exc_refl _ _⟩
theorem RowRd.slice0 {B : Nat} {w : World} {A : Option Addr} {c : Nat} {L : List Rn} (h : RowRd B w A c L) : L.length ≤ c ∧ (A = none → L = [] ∧ c = 0) ∧ (∀ a, A = some a → ∃ g, a = ⟨g, 0, none⟩ ∧ ∀ j u, (L.flatMap rcd)[j]? = some u → w.cell? ((⟨g, 0, none⟩ : Addr).add j) = some u) := by
  rcases h.2 with ⟨hv, h0⟩ | ⟨g, cap, cur, hv, hb, hg, hle, _⟩
  · injection hv with h1 h2 h3
    subst h1 h3
    exact ⟨by omega, fun _ => ⟨List.length_eq_zero_iff.1 h0, rfl⟩, fun a ha => by cases ha⟩
  · injection hv with h1 h2 h3
    subst h1 h3
    refine ⟨hle, fun h => (by cases h), fun a ha => ?_⟩
    injection ha with ha
    exact ⟨g, ha.symm, fun j u hu => World.ownsRow.cells h (g := g) rfl j u hu⟩
set_option maxRecDepth 100000 in
set_option maxHeartbeats 1000000 in
theorem of_anyd {B c : Nat} {A : Option Addr} {l : List Rn} {w : World} (hr : RowRd B w A c l) (hl : l.length ≤ 1000000) (hb : ∀ r ∈ l, Bdd r) :
    Calls Try.prog 160 #[.slice A l.length c] w fun e w' => ∃ p A' c', e = .returned (.pointer (some ⟨p, 0, none⟩)) ∧ w.heap.size ≤ p ∧ SetAtd w.heap.size p A' c' w' (l.foldl addL []) ∧ Ext w w' := by
  go_enter Try.func160, Try.ntmps160
  go_wp2
  have h0 : SetAtd w.heap.size w.heap.size none 0 (w.alloc (.cells #[.slice none 0 0] 205)) [] := ⟨heap_alloc_new _ _, World.ownsRow_nil _ _ _ _, trivial, fun r h => by cases h⟩
  go_loopw [10] (fun i wr => ∃ (k : Nat) (A' : Option Addr) (c' : Nat), k ≤ l.length ∧ i = .int .i64 k ∧ SetAtd w.heap.size w.heap.size A' c' wr ((l.take k).foldl addL []) ∧ Ext w wr) (fun i _ => l.length - (intOf i).toNat)
  case atStart => exact ⟨0, none, 0, Nat.zero_le _, rfl, h0, ext_alloc _ _⟩
  case round =>
    clear h0
    obtain ⟨k, A', c', hk, rfl, hS, hE⟩ := hrel
    by_cases hlt : k < l.length
    · obtain ⟨x, hx⟩ : ∃ x, l[k]? = some x := ⟨_, List.getElem?_eq_getElem hlt⟩
      obtain ⟨g, rfl, hlc, hBg, cx0, cx1⟩ := (hr.ext hE).at hx
      have hkc : k < c := by omega
      have hbx := hb x (List.mem_of_getElem? hx)
      have hf : (l.take (k + 1)).foldl addL [] = addL ((l.take k).foldl addL []) x := by
        obtain ⟨h1, rfl⟩ := List.getElem?_eq_some_iff.1 hx
        rw [List.take_succ_eq_append_getElem h1, List.foldl_append]
        rfl
      have hlen := foldl_addL_len (l.take k) []
      simp only [List.length_take, List.length_nil] at hlen
      obtain ⟨xl, xh⟩ := x
      have HF := Lib.hid hf
      clear hf hx
      generalize (l.take k).foldl addL [] = L at *
      have hEb := ext_alloc wr (Obj.cells #[.int .u16 xl, .int .u16 xh] 220)
      have hsz := (hE.trans hEb).size
      have HA := add_alld (hS.ext hEb) (by omega) hbx (Nat.le_refl _) hsz
      go_wp2_with fail
      refine HA.mono ?_
      rintro e w2 ⟨A3, c3, rfl, hS3, hX⟩
      have hE3 := hX.to_ext (hE.trans hEb) (fun q o h => by omega)
      rw [← HF.out] at hS3
      clear HA hX hEb
      go_wp2
      go_roundw
      case rel => exact ⟨k + 1, A3, c3, by omega, by go_num, hS3, hE3⟩
      case measure => simp [intOf]; omega
    · obtain rfl : k = l.length := by omega
      rw [List.take_length] at hS
      go_wp2
      go_ret
      exact ⟨_, _, _, rfl, Nat.le_refl _, hS, hE⟩
set_option maxRecDepth 100000 in
set_option maxHeartbeats 1000000 in
theorem clone_anyd {B c : Nat} {A : Option Addr} {L : List Rn} {w : World} (hr : RowRd B w A c L) (hl : L.length ≤ 1000000) :
    Calls Try.prog 156 #[.slice A L.length c] w fun e w' => ∃ A' c', e = .returned (.slice A' L.length c') ∧ RowRd w.heap.size w' A' c' L ∧ Ext w w' := by
  obtain ⟨i0, hi, hz0, hz1, hz2⟩ := info_parts infoRd
  obtain ⟨s1, s2, s3⟩ := hr.slice0
  have hsn : ∀ (a : Option Addr) (l c : Nat) (w : World), (binOp .eql 203 (.slice a l c) (.slice none 0 0)).run Try.prog w = .ok (.bool a.isNone) w := fun a l c w => by
    simp only [binOp]
    simp [run_equal_slice_nil w 203 220 a l c Try.underlying203]
  go_enter Try.func156, Try.ntmps156
  cases A with
  | none =>
    obtain ⟨rfl, rfl⟩ := s2 rfl
    go_wp2
    go_ret
    exact ⟨none, 0, rfl, World.ownsRow_nil _ _ _ _, Below.refl _ _⟩
  | some a =>
    obtain ⟨g, rfl, hc⟩ := s3 a rfl
    clear s2 s3
    have hown := World.ownsRow_lit (base := w.heap.size) (e := 220) (size := 2) w #[] 0 (Nat.le_refl _) (by decide) rfl
    go_wp2_with (at_builtin; refine wpList_append_own _ rfl _ _ 203 rfl w.heap.size 220 i0 _ 2 4 Try.underlying203 hi hz0 hz1 hz2 rfl (by decide) _ 0 _ rfl hown ⟨g, 0, none⟩ L.length c (L.flatMap rcd) rfl (rlend _) (fun j u hu => (ext_alloc w _).cell (hc j u hu)) (roned _) (by simp [maxLen]; omega) (by omega) (by simp) ?_; intro v' w2 hown2 hg2 _)
    simp only [Nat.zero_add, List.nil_append] at hown2
    obtain ⟨A', c', rfl⟩ := slice_of_own hown2
    have hE := ext_only (ext_alloc w _) (show (w.alloc (Obj.cells #[] 220)).grownBy w2 (some w.heap.size) from hg2) (Nat.le_refl _)
    go_wp2
    go_ret
    exact ⟨A', c', rfl, hown2, hE⟩
theorem runs_anyd {B p c : Nat} {A : Option Addr} {L : List Rn} {w : World} (hS : SetAtd B p A c w L) (hl : L.length ≤ 1000000) :
    Calls Try.prog 110 #[.pointer (some ⟨p, 0, none⟩)] w fun e w' => ∃ A' c', e = .returned (.slice A' L.length c') ∧ RowRd w.heap.size w' A' c' L ∧ Ext w w' := by
  have q1 := cell_of_row w p 0 _ _ _ hS.hd
  simp only [List.getElem?_toArray, List.getElem?_cons_zero] at q1
  go_enter Try.func110, Try.ntmps110
  go_wp2_with fail
  refine (clone_anyd hS.row hl).mono ?_
  rintro e w2 ⟨A', c', rfl, h1, h2⟩
  go_wp2
  go_ret
  exact ⟨A', c', rfl, h1, h2⟩
theorem eqRd (x y : Rn) (w : World) : (Op.equalIn 10000 220 (.agg #[.int .u16 x.lo, .int .u16 x.hi]) (.agg #[.int .u16 y.lo, .int .u16 y.hi])).run Try.prog w = .ok (decide (x = y)) w := by
  have u3 := Try.underlying51
  have hS : Try.prog.underlying 220 = some (.struct (Try.prog.fieldsOf 220)) := by kernel_rfl
  have hp : Try.prog.stoodInHeld 220 = false := by kernel_rfl
  obtain ⟨a, b⟩ := x
  obtain ⟨c, d⟩ := y
  rw [show (10000 : Nat) = 9999 + 1 from rfl, run_equalIn_agg w 9999 220 _ _ hS hp]
  simp only [Program.fieldsOf, Try.underlying220]
  go_simp
  by_cases h1 : a = c
  · by_cases h2 : b = d <;> simp [h1, h2]
  · simp [h1]
theorem neqRd (x y : Rn) (w : World) : (binOp .neq 220 (.agg #[.int .u16 x.lo, .int .u16 x.hi]) (.agg #[.int .u16 y.lo, .int .u16 y.hi])).run Try.prog w = .ok (.bool (!decide (x = y))) w := by
  rw [run_neq_struct, eqRd]
  rfl
set_option maxRecDepth 100000 in
set_option maxHeartbeats 1000000 in
theorem equal_anyd {B B' c d : Nat} {A A' : Option Addr} {L M : List Rn} {w : World} (hx : RowRd B w A c L) (hy : RowRd B' w A' d M) (hl : L.length ≤ 1000000) (hm : M.length ≤ 1000000) :
    Calls Try.prog 158 #[.slice A L.length c, .slice A' M.length d] w fun e w' => e = .returned (.bool (decide (L = M))) ∧ Ext w w' := by
  by_cases hll : L.length = M.length
  · have HLL := Lib.hid hll
    have h1 : (L.length : Int) = (M.length : Int) := by omega
    clear hll
    go_enter Try.func158, Try.ntmps158
    go_wp2
    clear h1
    go_loopw [13] (fun i wr => ∃ k : Nat, k ≤ L.length ∧ i = .int .i64 k ∧ Hid (L.take k = M.take k) ∧ Ext w wr) (fun i _ => L.length - (intOf i).toNat)
    case atStart => exact ⟨0, Nat.zero_le _, rfl, Lib.hid rfl, Below.refl _ _⟩
    case round =>
      obtain ⟨k, hk, rfl, HT, hE⟩ := hrel
      by_cases hlt : k < L.length
      · have hlt2 : k < M.length := by have := HLL.out; omega
        obtain ⟨u, hu⟩ : ∃ u, L[k]? = some u := ⟨_, List.getElem?_eq_getElem hlt⟩
        obtain ⟨v, hv⟩ : ∃ v, M[k]? = some v := ⟨_, List.getElem?_eq_getElem hlt2⟩
        obtain ⟨g, rfl, hlc, _, _, _⟩ := (hx.ext hE).at hu
        obtain ⟨g', rfl, hlc', _, _, _⟩ := (hy.ext hE).at hv
        have hkc : k < c := by omega
        have hkd : k < d := by omega
        have x0 : ∀ W, Ext wr W → W.cell? ⟨g, k * 2, none⟩ = some (.int .u16 u.lo) := fun W h => by
          obtain ⟨g2, e, _, _, h1, _⟩ := (hx.ext (hE.trans h)).at hu
          injection e with e; injection e with e; subst e; exact h1
        have x1 : ∀ W, Ext wr W → W.cell? ⟨g, k * 2 + 1, none⟩ = some (.int .u16 u.hi) := fun W h => by
          obtain ⟨g2, e, _, _, _, h1⟩ := (hx.ext (hE.trans h)).at hu
          injection e with e; injection e with e; subst e; exact h1
        have y0 : ∀ W, Ext wr W → W.cell? ⟨g', k * 2, none⟩ = some (.int .u16 v.lo) := fun W h => by
          obtain ⟨g2, e, _, _, h1, _⟩ := (hy.ext (hE.trans h)).at hv
          injection e with e; injection e with e; subst e; exact h1
        have y1 : ∀ W, Ext wr W → W.cell? ⟨g', k * 2 + 1, none⟩ = some (.int .u16 v.hi) := fun W h => by
          obtain ⟨g2, e, _, _, _, h1⟩ := (hy.ext (hE.trans h)).at hv
          injection e with e; injection e with e; subst e; exact h1
        have hq := neqRd u v
        have HU := Lib.hid hu
        have HV := Lib.hid hv
        clear hu hv
        go_wp2
        refine wp_region_rg Ext rel_ext (fun _ => True) [0, 1, 2, 3, 4, 5, 6, 7, 8] (fun _ => none) (fun _ => none) (fun _ => false) (by kernel_rfl) (by kernel_rfl) (fun _ _ _ _ => trivial) trivial (fun W N hW _ hN => ?_)
        have hEW := hW
        repeat (first | (apply wpR_one; (case ho => (simp only [List.getElem?_toArray, List.getElem?_cons_succ, List.getElem?_cons_zero]; try exact rfl)); (case hw => rfl); (case hl => rfl); (case hsp => rfl); (case he => rfl); (case hv => (intro w' hw'; (try (have hw2 := Ext.trans hEW hw')); (try (have hw3 := Exc.trans hEW hw')); (try (have hw4 := Exk.trans hEW hw')); (try (have hw5 := Mrk.trans hEW hw')); go_simp; exact rfl)); (case hw0 => (first | exact Below.refl _ _ | exact Exc.of_ext (Below.refl _ _) | exact Exk.of_ext (Below.refl _ _) | exact Mrk.of_ext (Below.refl _ _))); simp only [Act.put, List.setIfInBounds_toArray, List.set_cons_succ, List.set_cons_zero]) | (apply wpR_early; (case ho => (simp only [List.getElem?_toArray, List.getElem?_cons_succ, List.getElem?_cons_zero]; try exact rfl)); (case hw => rfl); (case hl => rfl); (case hsp => rfl); (case he => rfl); (case hv => (intro w' hw'; (try have hw2 := Ext.trans hEW hw'); go_simp; exact rfl)); simp only [Act.put, List.setIfInBounds_toArray, List.set_cons_succ, List.set_cons_zero]) | (apply wpR_pass; (case ho => (simp only [List.getElem?_toArray, List.getElem?_cons_succ, List.getElem?_cons_zero]; try exact rfl)); (case hw => rfl); (case hl => rfl); simp only [Act.put, List.setIfInBounds_toArray, List.set_cons_succ, List.set_cons_zero]))
        apply wpR_nil
        apply hN
        intro w' hE' hK _
        have hE2 := (hE.trans hEW).trans hE'
        clear hK hN x0 x1 y0 y1 hW hEW hE' hq
        by_cases huv : u = v
        · subst huv
          have HT2 : Hid (L.take (k + 1) = M.take (k + 1)) := Lib.hid (by
            obtain ⟨h1, e1⟩ := List.getElem?_eq_some_iff.1 HU.out
            obtain ⟨h2, e2⟩ := List.getElem?_eq_some_iff.1 HV.out
            rw [List.take_succ_eq_append_getElem h1, List.take_succ_eq_append_getElem h2, HT.out, e1, e2])
          rw [decide_eq_true rfl]
          go_wp2
          go_roundw
          case rel => exact ⟨k + 1, by omega, by go_num, HT2, hE2⟩
          case measure => simp [intOf]; omega
        · have HN := Lib.hid huv
          rw [decide_eq_false huv]
          clear huv
          go_wp2
          go_ret
          refine ⟨ret_bool ?_, hE2⟩
          symm
          simp only [decide_eq_false_iff_not]
          rintro rfl
          have h1 := HU.out
          rw [HV.out] at h1
          injection h1 with h1
          exact HN.out h1.symm
      · obtain rfl : k = L.length := by omega
        have h9 : ¬ L.length < M.length := by have := HLL.out; omega
        go_wp2
        go_ret
        refine ⟨ret_bool ?_, hE⟩
        symm
        have h1 := HT.out
        rw [List.take_length, HLL.out, List.take_length] at h1
        simpa using h1
  · have h1 : ¬ (L.length : Int) = (M.length : Int) := by omega
    go_enter Try.func158, Try.ntmps158
    go_wp2
    go_ret
    exact ⟨ret_bool (by symm; simp only [decide_eq_false_iff_not]; rintro rfl; exact hll rfl), Below.refl _ _⟩
end Go.Proofs.Ytffapgemacbdjaa
