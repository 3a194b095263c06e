/- Layer 3: the contract of tuple.floating. No condition but that the bytes lie in memory. -/
import Derived.Test.YtbjfgnkjmfcokaaTlen
namespace Go.Proofs.Ytbjfgnkjmfcokaa
open Go.RowKit Go.Proofs
set_option linter.unusedVariables false
theorem calls_cut3 {P : Program} {f : FuncId} {args : Array Value} {w : World} {Q : Ending → World → Prop} (F : World → Prop) (hF : F w) (h : ∀ W, F W → Calls P f args W Q) : Calls P f args w Q := h w hF
/-- What is answered of the value at the head of b. -/
def GetIs (b : List UInt8) (v : Vl) (n e : Int) : Prop := e = getE b ∧ (e = 0 → v = getV b ∧ n = (lenB b : Int))
theorem heap_other (w : World) {g k j : Nat} (v : Value) {o : Obj} (h : w.heap[k]? = some o) (hne : g ≠ k) : (w.setCell ⟨g, j, none⟩ v).heap[k]? = some o := (Below.heap_setCell w _ v k (Ne.symm hne)).trans h
theorem alloc_under (w : World) (o p : Obj) : ((w.alloc o).alloc p).heap[w.heap.size]? = some o := by
  rw [Below.heap_alloc _ _ _ (by simp)]
  exact heap_alloc_new _ _
theorem results_crr {P : Program} {fn : Func} {p u v : Tmp} {ty : TypeId} (h : fn.results = #[.cell p ty, .tmp u, .tmp v]) (tmps : Array Value) (w : World) (g : Nat) (t : TypeId) (cs : Array Value) (fr : Nat × Nat) (d : TypeDesc)
    (hp : tmps.getD p undef = .pointer (some ⟨g, 0, none⟩)) (hg : w.heap[g]? = some (.cells cs t fr))
    (hu : P.underlying ty = some d) (hd : (match d with | .struct _ | .array _ _ => true | _ => false) = true) (hi : (P.info? ty).map (·.size) = some cs.size) :
    (results fn tmps).run P w = .ok (.tuple #[.agg cs, tmps.getD u undef, tmps.getD v undef]) w := by
  have e1 : tmps[p]?.getD undef = .pointer (some ⟨g, 0, none⟩) := by simpa using hp
  simp [results, h, e1, asAddr, run_loadVar_row w g t ty cs fr d hg hu hd hi, Result.andThen]
theorem Sl.dropAt {w : World} {A : Option Addr} {c : Nat} {bs : List UInt8} (h : Sl w A c bs) (k : Nat) (hk : k ≤ bs.length) (hne : ¬ c = k) : Sl w (A.map (·.add k)) (c - k) (bs.drop k) := by
  refine ⟨fun hn => ?_, by have := h.len; simp; omega, by have := h.le; simp; omega, by have := h.cap; omega⟩
  have hl : (bs.drop k).length = bs.length - k := by simp
  obtain ⟨b, off, rfl, hc⟩ := h.rd (by omega)
  refine ⟨b, off + k, by rw [Option.map_some, Addr.add_lit], fun i hi => ?_⟩
  have := hc (k + i) (by omega)
  rw [Nat.add_assoc, this]
  simp [at8, Nat.add_comm]
section
variable {w : World} {A : Option Addr} {c : Nat} {r : List UInt8}
set_option maxRecDepth 100000 in
set_option maxHeartbeats 1000000 in
theorem floating_48 (h : Sl w A c r) : Calls Try.prog 69 #[.int .u8 48, .slice A r.length c] w fun e w' => ∃ (v : Vl) (n e2 : Int), e = .returned (.tuple #[v.p, .int .i64 n, .int .i64 e2]) ∧ GetIs (48 :: r) v n e2 ∧ Ext w w' := by
  have hsf := run_store_float Try.prog
  have hsc := run_store_complex Try.prog
  have hl := h.len
  have hg := real_get (c := 48) (r := r) rfl
  have hE0 := (ext_alloc w (Obj.cells #[.int .i64 0, .bool false, .int .i64 0, .float .f64 0, .complex .f64 0 0, str []] 56)).trans (ext_alloc _ (Obj.cells #[.int .i64 3, .bool false, .int .i64 0, .float .f64 0, .complex .f64 0 0, str []] 56))
  have hb1 := alloc_under w (Obj.cells #[.int .i64 0, .bool false, .int .i64 0, .float .f64 0, .complex .f64 0 0, str []] 56) (Obj.cells #[.int .i64 3, .bool false, .int .i64 0, .float .f64 0, .complex .f64 0 0, str []] 56)
  have hb2 := alloc_two w (Obj.cells #[.int .i64 0, .bool false, .int .i64 0, .float .f64 0, .complex .f64 0 0, str []] 56) (Obj.cells #[.int .i64 3, .bool false, .int .i64 0, .float .f64 0, .complex .f64 0 0, str []] 56)
  by_cases hs : r.length < 8
  · have HG := Lib.hid (hg.1 hs)
    clear hg
    have hsi : (r.length : Int) < 8 := by omega
    clear hs
    go_enter Try.func69, Try.ntmps69
    go_wp2_with (refine wpList_store_box rfl 56 _ _ rfl w.heap.size _ rfl rfl 56 _ hb1 (by kernel_rfl) rfl (by simp [Value.oneCell']) ?_; intro w2 hb hgr)
    have hE := ext_only hE0 hgr (Nat.le_refl _)
    go_wp2
    exact bodyPost_ret (results_crr rfl _ _ _ _ _ _ _ rfl hb Try.underlying56 rfl (by kernel_rfl)) rfl ⟨{ Vl.zero with kind := 3 }, 0, 2, rfl, ⟨HG.out.symm, fun h => by cases h⟩, hE⟩
  · have HG := Lib.hid (hg.2 (by omega))
    clear hg
    have h8 : 8 ≤ r.length := by omega
    have HF := fun W (hx : Ext w W) => fraction_any (w := W) (h.ext hx) h8
    generalize bN (r.take 8) = X at HG HF
    obtain ⟨y, hy⟩ : ∃ y, unrankN X = y := ⟨_, rfl⟩
    rw [hy] at HG HF
    clear hs hy
    go_enter Try.func69, Try.ntmps69
    go_wp2_with fail
    refine calls_cut3 (fun W => Ext w W ∧ W.heap[w.heap.size]? = some (.cells #[.int .i64 0, .bool false, .int .i64 0, .float .f64 0, .complex .f64 0 0, str []] 56) ∧ W.heap[w.heap.size + 1]? = some (.cells #[.int .i64 3, .bool false, .int .i64 0, .float .f64 0, .complex .f64 0 0, str []] 56)) ⟨hE0, hb1, hb2⟩ ?_
    clear hb1 hb2 hE0
    rintro W ⟨hE, hb1, hb2⟩
    refine (HF W hE).mono ?_
    rintro e w2 ⟨rfl, rfl⟩
    have q0 := cell_of_row W (w.heap.size + 1) 0 _ _ _ hb2
    have q1 := cell_of_row W (w.heap.size + 1) 1 _ _ _ hb2
    have q2 := cell_of_row W (w.heap.size + 1) 2 _ _ _ hb2
    have q3 := cell_of_row W (w.heap.size + 1) 3 _ _ _ hb2
    have q4 := cell_of_row W (w.heap.size + 1) 4 _ _ _ hb2
    have q5 := cell_of_row W (w.heap.size + 1) 5 _ _ _ hb2
    have f3 := frozen_of_row W (w.heap.size + 1) 3 _ _ hb2
    simp only [List.getElem?_toArray, List.getElem?_cons_zero, List.getElem?_cons_succ] at q0 q1 q2 q3 q4 q5
    have hb3 := heap_other W (j := 3) (.float .f64 y) hb1 (show w.heap.size + 1 ≠ w.heap.size by omega)
    have hE3 := ext_store hE (p := ⟨w.heap.size + 1, 3, none⟩) (Nat.le_succ _) (.float .f64 y)
    by_cases hf : rankN y = X
    · have HH := Lib.hid (HG.out.2.1 hf)
      have HL := Lib.hid HG.out.1
      have hd : decide (rankN y = X) = true := decide_eq_true hf
      clear HF HG hb1
      go_wp2_with (refine wpList_store_box rfl 56 _ _ rfl w.heap.size _ rfl rfl 56 _ hb3 (by kernel_rfl) rfl (by simp [Value.oneCell']) ?_; intro w2 hb hgr)
      have hE4 := ext_only hE3 hgr (Nat.le_refl _)
      go_wp2
      exact bodyPost_ret (results_crr rfl _ _ _ _ _ _ _ rfl hb Try.underlying56 rfl (by kernel_rfl)) rfl ⟨{ Vl.zero with kind := 3, real := y }, 9, 0, rfl, ⟨HH.out.1.symm, fun _ => ⟨HH.out.2.symm, by rw [HL.out]; rfl⟩⟩, hE4⟩
    · have HH := Lib.hid (HG.out.2.2 hf)
      have hd : decide (rankN y = X) = false := decide_eq_false hf
      clear HF HG hb1
      go_wp2_with (refine wpList_store_box rfl 56 _ _ rfl w.heap.size _ rfl rfl 56 _ hb3 (by kernel_rfl) rfl (by simp [Value.oneCell']) ?_; intro w2 hb hgr)
      have hE4 := ext_only hE3 hgr (Nat.le_refl _)
      go_wp2
      exact bodyPost_ret (results_crr rfl _ _ _ _ _ _ _ rfl hb Try.underlying56 rfl (by kernel_rfl)) rfl ⟨{ Vl.zero with kind := 3, real := y }, 0, 5, rfl, ⟨HH.out.symm, fun h => by cases h⟩, hE4⟩
set_option maxRecDepth 100000 in
set_option maxHeartbeats 2000000 in
theorem floating_56 (h : Sl w A c r) : Calls Try.prog 69 #[.int .u8 56, .slice A r.length c] w fun e w' => ∃ (v : Vl) (n e2 : Int), e = .returned (.tuple #[v.p, .int .i64 n, .int .i64 e2]) ∧ GetIs (56 :: r) v n e2 ∧ Ext w w' := by
  have hsf := run_store_float Try.prog
  have hsc := run_store_complex Try.prog
  have hl := h.len
  have hle := h.le
  have hg := point_get (c := 56) (r := r) rfl
  have hE0 := (ext_alloc w (Obj.cells #[.int .i64 0, .bool false, .int .i64 0, .float .f64 0, .complex .f64 0 0, str []] 56)).trans (ext_alloc _ (Obj.cells #[.int .i64 4, .bool false, .int .i64 0, .float .f64 0, .complex .f64 0 0, str []] 56))
  have hb1 := alloc_under w (Obj.cells #[.int .i64 0, .bool false, .int .i64 0, .float .f64 0, .complex .f64 0 0, str []] 56) (Obj.cells #[.int .i64 4, .bool false, .int .i64 0, .float .f64 0, .complex .f64 0 0, str []] 56)
  have hb2 := alloc_two w (Obj.cells #[.int .i64 0, .bool false, .int .i64 0, .float .f64 0, .complex .f64 0 0, str []] 56) (Obj.cells #[.int .i64 4, .bool false, .int .i64 0, .float .f64 0, .complex .f64 0 0, str []] 56)
  by_cases hs : r.length < 16
  · have HG := Lib.hid (hg.1 hs)
    clear hg
    have hsi : (r.length : Int) < 16 := by omega
    clear hs hb2
    go_enter Try.func69, Try.ntmps69
    go_wp2_with (refine wpList_store_box rfl 56 _ _ rfl w.heap.size _ rfl rfl 56 _ hb1 (by kernel_rfl) rfl (by simp [Value.oneCell']) ?_; intro w2 hb hgr)
    have hE := ext_only hE0 hgr (Nat.le_refl _)
    go_wp2
    exact bodyPost_ret (results_crr rfl _ _ _ _ _ _ _ rfl hb Try.underlying56 rfl (by kernel_rfl)) rfl ⟨{ Vl.zero with kind := 4 }, 0, 2, rfl, ⟨HG.out.symm, fun h => by cases h⟩, hE⟩
  · have HG := Lib.hid (hg.2 (by omega))
    clear hg
    have h8 : 8 ≤ r.length := by omega
    have h16 : 16 ≤ r.length := by omega
    have hsc8 : ¬ c = 8 := by omega
    have hdl : (r.drop 8).length = r.length - 8 := by simp
    have hdl2 : 8 ≤ (r.drop 8).length := by omega
    have HF := fun W (hx : Ext w W) => fraction_any (w := W) (h.ext hx) h8
    have HF2 := fun W (hx : Ext w W) => fraction_any (w := W) ((h.dropAt 8 h8 hsc8).ext hx) hdl2
    rw [hdl] at HF2
    clear hdl hdl2
    generalize bN (r.take 8) = X at HG HF
    generalize bN ((r.drop 8).take 8) = Z at HG HF2
    obtain ⟨x, hx⟩ : ∃ y, unrankN X = y := ⟨_, rfl⟩
    obtain ⟨z, hz⟩ : ∃ y, unrankN Z = y := ⟨_, rfl⟩
    rw [hx, hz] at HG
    rw [hx] at HF
    rw [hz] at HF2
    clear hs hx hz
    obtain ⟨b, off, rfl, _⟩ := h.rd (by omega)
    go_enter Try.func69, Try.ntmps69
    go_wp2_with fail
    refine calls_cut3 (fun W => Ext w W ∧ W.heap[w.heap.size]? = some (.cells #[.int .i64 0, .bool false, .int .i64 0, .float .f64 0, .complex .f64 0 0, str []] 56) ∧ W.heap[w.heap.size + 1]? = some (.cells #[.int .i64 4, .bool false, .int .i64 0, .float .f64 0, .complex .f64 0 0, str []] 56)) ⟨hE0, hb1, hb2⟩ ?_
    clear hb1 hb2 hE0
    rintro W ⟨hE, hb1, hb2⟩
    refine (HF W hE).mono ?_
    rintro e w2 ⟨rfl, rfl⟩
    have q3 := cell_of_row W (w.heap.size + 1) 3 _ _ _ hb2
    have f3 := frozen_of_row W (w.heap.size + 1) 3 _ _ hb2
    simp only [List.getElem?_toArray, List.getElem?_cons_zero, List.getElem?_cons_succ] at q3
    have hb3 := heap_other W (j := 3) (.float .f64 x) hb1 (show w.heap.size + 1 ≠ w.heap.size by omega)
    have hb4 := heap_setCell_same W _ 3 _ _ (.float .f64 x) hb2
    have hE3 := ext_store hE (p := ⟨w.heap.size + 1, 3, none⟩) (Nat.le_succ _) (.float .f64 x)
    go_wp2_with fail
    refine calls_cut3 (fun W => Ext w W ∧ W.heap[w.heap.size]? = some (.cells #[.int .i64 0, .bool false, .int .i64 0, .float .f64 0, .complex .f64 0 0, str []] 56) ∧ W.heap[w.heap.size + 1]? = some (.cells #[.int .i64 4, .bool false, .int .i64 0, .float .f64 x, .complex .f64 0 0, str []] 56)) ⟨hE3, hb3, hb4⟩ ?_
    clear hb1 hb2 hE hb3 hb4 hE3 q3 f3
    rintro W2 ⟨hE, hb1, hb2⟩
    refine (HF2 W2 hE).mono ?_
    rintro e w2 ⟨rfl, rfl⟩
    have q3 := cell_of_row W2 (w.heap.size + 1) 3 _ _ _ hb2
    have q4 := cell_of_row W2 (w.heap.size + 1) 4 _ _ _ hb2
    have q0 := cell_of_row W2 (w.heap.size + 1) 0 _ _ _ hb2
    have q1 := cell_of_row W2 (w.heap.size + 1) 1 _ _ _ hb2
    have q2 := cell_of_row W2 (w.heap.size + 1) 2 _ _ _ hb2
    have q5 := cell_of_row W2 (w.heap.size + 1) 5 _ _ _ hb2
    have f3 := frozen_of_row W2 (w.heap.size + 1) 3 _ _ hb2
    have f4 := frozen_of_row W2 (w.heap.size + 1) 4 _ _ hb2
    simp only [List.getElem?_toArray, List.getElem?_cons_zero, List.getElem?_cons_succ] at q0 q1 q2 q3 q4 q5
    have hb3 := heap_other _ (j := 4) (.complex .f64 x z) (heap_other W2 (j := 3) (.float .f64 0) hb1 (show w.heap.size + 1 ≠ w.heap.size by omega)) (show w.heap.size + 1 ≠ w.heap.size by omega)
    have hE3 := ext_store (ext_store hE (p := ⟨w.heap.size + 1, 3, none⟩) (Nat.le_succ _) (.float .f64 0)) (p := ⟨w.heap.size + 1, 4, none⟩) (Nat.le_succ _) (.complex .f64 x z)
    by_cases hf : rankN x = X
    · have hd : decide (rankN x = X) = true := decide_eq_true hf
      by_cases hf2 : rankN z = Z
      · have hd2 : decide (rankN z = Z) = true := decide_eq_true hf2
        have HH := Lib.hid (HG.out.2.1 ⟨hf, hf2⟩)
        have HL := Lib.hid HG.out.1
        clear HF HF2 HG hb1
        go_wp2_with (refine wpList_store_box rfl 56 _ _ rfl w.heap.size _ rfl rfl 56 _ hb3 (by kernel_rfl) rfl (by simp [Value.oneCell']) ?_; intro w2 hb hgr)
        have hE4 := ext_only hE3 hgr (Nat.le_refl _)
        go_wp2
        exact bodyPost_ret (results_crr rfl _ _ _ _ _ _ _ rfl hb Try.underlying56 rfl (by kernel_rfl)) rfl ⟨{ Vl.zero with kind := 4, re := x, im := z }, 17, 0, rfl, ⟨HH.out.1.symm, fun _ => ⟨HH.out.2.symm, by rw [HL.out]; rfl⟩⟩, hE4⟩
      · have hd2 : decide (rankN z = Z) = false := decide_eq_false hf2
        have HH := Lib.hid (HG.out.2.2 (fun h => hf2 h.2))
        clear HF HF2 HG hb1
        go_wp2_with (refine wpList_store_box rfl 56 _ _ rfl w.heap.size _ rfl rfl 56 _ hb3 (by kernel_rfl) rfl (by simp [Value.oneCell']) ?_; intro w2 hb hgr)
        have hE4 := ext_only hE3 hgr (Nat.le_refl _)
        go_wp2
        exact bodyPost_ret (results_crr rfl _ _ _ _ _ _ _ rfl hb Try.underlying56 rfl (by kernel_rfl)) rfl ⟨{ Vl.zero with kind := 4, re := x, im := z }, 0, 5, rfl, ⟨HH.out.symm, fun h => by cases h⟩, hE4⟩
    · have hd : decide (rankN x = X) = false := decide_eq_false hf
      have HH := Lib.hid (HG.out.2.2 (fun h => hf h.1))
      clear HF HF2 HG hb1
      go_wp2_with (refine wpList_store_box rfl 56 _ _ rfl w.heap.size _ rfl rfl 56 _ hb3 (by kernel_rfl) rfl (by simp [Value.oneCell']) ?_; intro w2 hb hgr)
      have hE4 := ext_only hE3 hgr (Nat.le_refl _)
      go_wp2
      exact bodyPost_ret (results_crr rfl _ _ _ _ _ _ _ rfl hb Try.underlying56 rfl (by kernel_rfl)) rfl ⟨{ Vl.zero with kind := 4, re := x, im := z }, 0, 5, rfl, ⟨HH.out.symm, fun h => by cases h⟩, hE4⟩
end
end Go.Proofs.Ytbjfgnkjmfcokaa
