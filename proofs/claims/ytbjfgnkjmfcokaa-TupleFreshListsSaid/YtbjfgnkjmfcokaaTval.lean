/- Layer 3: values as they lie in memory, and contracts of the law's functions value, bits, mark. No condition but the bounds of the types. -/
import Derived.Test.YtbjfgnkjmfcokaaTfun
import Derived.Test.YtbjfgnkjmfcokaaMild
import Derived.Test.YtbjfgnkjmfcokaaMildg
namespace Go.Proofs.Ytbjfgnkjmfcokaa
open Go.RowKit Go.Proofs
set_option linter.unusedVariables false
/-- A value: kind, bool, int, the bits of the real and of the point's two parts, the text. -/
structure Vl where
  kind : Int
  bool : Bool
  int : Int
  real : Nat
  re : Nat
  im : Nat
  text : List UInt8
deriving DecidableEq
def Vl.zero : Vl := ⟨0, false, 0, 0, 0, 0, []⟩
structure Vl.Ok (v : Vl) : Prop where
  kind : -9223372036854775808 ≤ v.kind ∧ v.kind ≤ 9223372036854775807
  int : -9223372036854775808 ≤ v.int ∧ v.int ≤ 9223372036854775807
  real : v.real < 18446744073709551616
  re : v.re < 18446744073709551616
  im : v.im < 18446744073709551616
  text : v.text.length ≤ 140737488355328
abbrev str (l : List UInt8) : Value := .string ⟨l.toArray⟩
/-- As the document has it: reals are their bits. -/
def Vl.dc (v : Vl) : List Value := [.int .i64 v.kind, .bool v.bool, .int .i64 v.int, .int .u64 v.real, .int .u64 v.re, .int .u64 v.im, str v.text]
/-- As the program has it. -/
def Vl.pc (v : Vl) : List Value := [.int .i64 v.kind, .bool v.bool, .int .i64 v.int, .float .f64 v.real, .complex .f64 v.re v.im, str v.text]
abbrev Vl.d (v : Vl) : Value := .agg #[.int .i64 v.kind, .bool v.bool, .int .i64 v.int, .int .u64 v.real, .int .u64 v.re, .int .u64 v.im, str v.text]
abbrev Vl.p (v : Vl) : Value := .agg #[.int .i64 v.kind, .bool v.bool, .int .i64 v.int, .float .f64 v.real, .complex .f64 v.re v.im, str v.text]
/-- The value of the law's mark. -/
def markV (i : Nat) : Vl := ⟨-77 - i, false, i, 0, 0, 0, [114, 111, 111, 109]⟩
theorem calls_ext {P : Program} {f : FuncId} {args : Array Value} {w : World} {v : Value} (h : Calls P f args w fun e w' => e = .returned v ∧ w = w') : Calls P f args w fun e w' => ∃ u, e = .returned u ∧ Ext w w' ∧ u = v :=
  h.mono fun _ _ ⟨he, hw⟩ => ⟨v, he, hw ▸ Below.refl _ _, rfl⟩
theorem value_any {v : Vl} {w : World} : Calls Try.prog 34 #[v.d] w fun e w' => e = .returned v.p ∧ Ext w w' := by
  obtain ⟨kind, bool, int, real, re, im, text⟩ := v
  go_enter Try.func34, Try.ntmps34
  go_wp2
  refine wp_cut (fun W => Ext w W ∧ W.heap[w.heap.size]? = some (.cells #[.int .i64 kind, .bool bool, .int .i64 int, .int .u64 real, .int .u64 re, .int .u64 im, str text] 51) ∧
    W.heap[w.heap.size + 1]? = some (.cells #[.int .i64 0, .bool false, .int .i64 0, .float .f64 0, .complex .f64 0 0, str []] 56)) ⟨?_, ?_, ?_⟩ ?_
  · exact (ext_alloc _ _).trans (ext_alloc _ _)
  · rw [Below.heap_alloc _ _ _ (by simp)]; exact heap_alloc_new _ _
  · rw [show w.heap.size + 1 = (w.alloc _).heap.size from (World.size_alloc _ _).symm]; exact heap_alloc_new _ _
  rintro w1 ⟨hE, hb1, hb2⟩
  refine wp_region_mild 19 (fun i => match i with
    | 8 => some fun _ v _ => v = .float .f64 real
    | 11 => some fun _ v _ => v = .float .f64 re
    | 14 => some fun _ v _ => v = .float .f64 im
    | _ => none) (by kernel_rfl) (by kernel_rfl) (fun W N hW hN => ?_)
  have e0 : ∀ w', Ext W w' → w'.cell? ⟨w.heap.size, 0, none⟩ = some (.int .i64 kind) := fun w' h => cell_of_row _ _ _ _ _ _ ((hW.trans h).blk hb1)
  have e1 : ∀ w', Ext W w' → w'.cell? ⟨w.heap.size, 1, none⟩ = some (.bool bool) := fun w' h => cell_of_row _ _ _ _ _ _ ((hW.trans h).blk hb1)
  have e2 : ∀ w', Ext W w' → w'.cell? ⟨w.heap.size, 2, none⟩ = some (.int .i64 int) := fun w' h => cell_of_row _ _ _ _ _ _ ((hW.trans h).blk hb1)
  have e3 : ∀ w', Ext W w' → w'.cell? ⟨w.heap.size, 3, none⟩ = some (.int .u64 real) := fun w' h => cell_of_row _ _ _ _ _ _ ((hW.trans h).blk hb1)
  have e4 : ∀ w', Ext W w' → w'.cell? ⟨w.heap.size, 4, none⟩ = some (.int .u64 re) := fun w' h => cell_of_row _ _ _ _ _ _ ((hW.trans h).blk hb1)
  have e5 : ∀ w', Ext W w' → w'.cell? ⟨w.heap.size, 5, none⟩ = some (.int .u64 im) := fun w' h => cell_of_row _ _ _ _ _ _ ((hW.trans h).blk hb1)
  have e6 : ∀ w', Ext W w' → w'.cell? ⟨w.heap.size, 6, none⟩ = some (str text) := fun w' h => cell_of_row _ _ _ _ _ _ ((hW.trans h).blk hb1)
  simp only [List.take_succ_cons, List.take_zero]
  repeat (apply wpM_one; (case hg => rfl); (case hsp => rfl); (case hv => (intro w' hw'; go_simp; exact rfl)); simp only [Act.put, List.setIfInBounds_toArray, List.set_cons_succ, List.set_cons_zero])
  refine wpM_new _ rfl rfl (fun V v => Stable.pure) (fun V V' h => rfl) (fun w' hw' hK => ?_) (fun v hv => ?_)
  · unfold mildAt; go_simp; rw [mildUpon_enter]
    exact ⟨Below.refl _ _, calls_ext real64_any⟩
  obtain ⟨_, _, _, rfl⟩ := hv
  simp only [Act.put, List.setIfInBounds_toArray, List.set_cons_succ, List.set_cons_zero]
  repeat (apply wpM_one; (case hg => rfl); (case hsp => rfl); (case hv => (intro w' hw'; go_simp; exact rfl)); simp only [Act.put, List.setIfInBounds_toArray, List.set_cons_succ, List.set_cons_zero])
  refine wpM_new _ rfl rfl (fun V v => Stable.pure) (fun V V' h => rfl) (fun w' hw' hK => ?_) (fun v hv => ?_)
  · unfold mildAt; go_simp; rw [mildUpon_enter]
    exact ⟨Below.refl _ _, calls_ext real64_any⟩
  obtain ⟨_, _, _, rfl⟩ := hv
  simp only [Act.put, List.setIfInBounds_toArray, List.set_cons_succ, List.set_cons_zero]
  repeat (apply wpM_one; (case hg => rfl); (case hsp => rfl); (case hv => (intro w' hw'; go_simp; exact rfl)); simp only [Act.put, List.setIfInBounds_toArray, List.set_cons_succ, List.set_cons_zero])
  refine wpM_new _ rfl rfl (fun V v => Stable.pure) (fun V V' h => rfl) (fun w' hw' hK => ?_) (fun v hv => ?_)
  · unfold mildAt; go_simp; rw [mildUpon_enter]
    exact ⟨Below.refl _ _, calls_ext real64_any⟩
  obtain ⟨_, _, _, rfl⟩ := hv
  simp only [Act.put, List.setIfInBounds_toArray, List.set_cons_succ, List.set_cons_zero]
  repeat (apply wpM_one; (case hg => rfl); (case hsp => rfl); (case hv => (intro w' hw'; go_simp; exact rfl)); simp only [Act.put, List.setIfInBounds_toArray, List.set_cons_succ, List.set_cons_zero])
  apply wpM_nil
  apply hN
  intro w' hE' hK
  simp only [List.drop_succ_cons, List.drop_zero]
  refine wpList_store_box rfl 56 _ _ rfl (w.heap.size + 1) _ rfl rfl 56 _ ((hW.trans hE').blk hb2) (by kernel_rfl) rfl (by simp [Value.oneCell']) (fun w2 hb hg => ?_)
  have hE2 := ext_only ((hE.trans hW).trans hE') hg (Nat.le_succ _)
  clear hK hN e0 e1 e2 e3 e4 e5 e6
  go_wp2
  exact bodyPost_ret (results_cell_row rfl _ _ _ _ _ _ _ rfl hb Try.underlying56 rfl (by kernel_rfl)) rfl ⟨rfl, hE2⟩
theorem bits_any {v : Vl} {w : World} : Calls Try.prog 31 #[v.p] w fun e w' => e = .returned v.d ∧ Ext w w' := by
  obtain ⟨kind, bool, int, real, re, im, text⟩ := v
  have hrun := run_bits64
  go_enter Try.func31, Try.ntmps31
  go_wp2
  refine wp_cut (fun W => Ext w W ∧ W.heap[w.heap.size]? = some (.cells #[.int .i64 kind, .bool bool, .int .i64 int, .float .f64 real, .complex .f64 re im, str text] 56) ∧
    W.heap[w.heap.size + 1]? = some (.cells #[.int .i64 0, .bool false, .int .i64 0, .int .u64 0, .int .u64 0, .int .u64 0, str []] 51)) ⟨?_, ?_, ?_⟩ ?_
  · exact (ext_alloc _ _).trans (ext_alloc _ _)
  · rw [Below.heap_alloc _ _ _ (by simp)]; exact heap_alloc_new _ _
  · rw [show w.heap.size + 1 = (w.alloc _).heap.size from (World.size_alloc _ _).symm]; exact heap_alloc_new _ _
  rintro w1 ⟨hE, hb1, hb2⟩
  refine wp_region_mild 20 (fun i => none) (by kernel_rfl) (by kernel_rfl) (fun W N hW hN => ?_)
  have e0 : ∀ w', Ext W w' → w'.cell? ⟨w.heap.size, 0, none⟩ = some (.int .i64 kind) := fun w' h => cell_of_row _ _ _ _ _ _ ((hW.trans h).blk hb1)
  have e1 : ∀ w', Ext W w' → w'.cell? ⟨w.heap.size, 1, none⟩ = some (.bool bool) := fun w' h => cell_of_row _ _ _ _ _ _ ((hW.trans h).blk hb1)
  have e2 : ∀ w', Ext W w' → w'.cell? ⟨w.heap.size, 2, none⟩ = some (.int .i64 int) := fun w' h => cell_of_row _ _ _ _ _ _ ((hW.trans h).blk hb1)
  have e3 : ∀ w', Ext W w' → w'.cell? ⟨w.heap.size, 3, none⟩ = some (.float .f64 real) := fun w' h => cell_of_row _ _ _ _ _ _ ((hW.trans h).blk hb1)
  have e4 : ∀ w', Ext W w' → w'.cell? ⟨w.heap.size, 4, none⟩ = some (.complex .f64 re im) := fun w' h => cell_of_row _ _ _ _ _ _ ((hW.trans h).blk hb1)
  have e5 : ∀ w', Ext W w' → w'.cell? ⟨w.heap.size, 5, none⟩ = some (str text) := fun w' h => cell_of_row _ _ _ _ _ _ ((hW.trans h).blk hb1)
  simp only [List.take_succ_cons, List.take_zero]
  repeat (apply wpM_one; (case hg => rfl); (case hsp => rfl); (case hv => (intro w' hw'; go_simp; exact rfl)); simp only [Act.put, List.setIfInBounds_toArray, List.set_cons_succ, List.set_cons_zero])
  apply wpM_nil
  apply hN
  intro w' hE' hK
  simp only [List.drop_succ_cons, List.drop_zero]
  refine wpList_store_box rfl 51 _ _ rfl (w.heap.size + 1) _ rfl rfl 51 _ ((hW.trans hE').blk hb2) (by kernel_rfl) rfl (by simp [Value.oneCell']) (fun w2 hb hg => ?_)
  have hE2 := ext_only ((hE.trans hW).trans hE') hg (Nat.le_succ _)
  clear hK hN e0 e1 e2 e3 e4 e5
  go_wp2
  exact bodyPost_ret (results_cell_row rfl _ _ _ _ _ _ _ rfl hb Try.underlying51 rfl (by kernel_rfl)) rfl ⟨rfl, hE2⟩
theorem run_store_float (P : Program) (w : World) (a : Addr) (m : Mode) (k : FloatKind) (b : Nat) : (store a (.float k b) m).run P w = stored P w a (.float k b) m := run_store P w a _ m rfl
theorem run_store_complex (P : Program) (w : World) (a : Addr) (m : Mode) (k : FloatKind) (x y : Nat) : (store a (.complex k x y) m).run P w = stored P w a (.complex k x y) m := run_store P w a _ m rfl
theorem mark_any {i : Nat} {w : World} (hi : i ≤ 4611686018427387904) : Calls Try.prog 39 #[.int .i64 i] w fun e w' => e = .returned (markV i).p ∧ Ext w w' := by
  have hsf := run_store_float Try.prog
  have hsc := run_store_complex Try.prog
  go_enter Try.func39, Try.ntmps39
  go_wp2
  have hb := heap_alloc_new w (Obj.cells #[.int .i64 (-77 - (i : Int)), .bool false, .int .i64 i, .float .f64 0, .complex .f64 0 0, str [114, 111, 111, 109]] 56)
  exact bodyPost_ret (results_cell_row rfl _ _ _ _ _ _ _ rfl hb Try.underlying56 rfl (by kernel_rfl)) rfl ⟨rfl, ext_alloc _ _⟩
end Go.Proofs.Ytbjfgnkjmfcokaa
