/- Layer 10: over, New, Min, Max, Load. No condition but the sizes. -/
import Derived.Test.YtaalhicdeibodaaPh
namespace Go.Proofs.Ytaalhicdeibodaa
open Go.RowKit Go.Proofs Go.Shelf
set_option linter.unusedVariables false
attribute [local go_sem] Oper.semAt_some
theorem made1 (z : Value) (hz : z.cells = #[z]) (n : Nat) : (madeCells z.cells (n * 1)).toList = List.replicate n z := by
  rw [hz, Nat.mul_one]
  apply List.ext_getElem (by simp [madeCells])
  intro i h1 h2
  simp [madeCells, Nat.mod_one]
theorem over_any {B : Nat} {w : World} {A : Option Addr} {c : Nat} {cnt : List Int} {refs : Int} (hcn : RowI B w A c cnt) (hBw : B ≤ w.heap.size) (h1 : 2 ≤ refs ∧ refs ≤ 65535) (h2 : 1 ≤ cnt.length ∧ cnt.length ≤ 65536) (h3 : ∀ c ∈ cnt, 0 ≤ c ∧ c ≤ refs) :
    Calls Try.prog 63 #[.int .i64 refs, .slice A cnt.length c] w fun e w' => ∃ m', e = .returned (.pointer (some ⟨m'.p, 0, none⟩)) ∧ PoolS B 0 w' m' (loadS refs cnt) ∧ Ext w w' ∧ (∀ q, m'.foot q → blkOf A = some q ∨ w.heap.size ≤ q) := by
  obtain ⟨i0, hi, hz0, hz1, hz2⟩ := info_split infoT
  go_enter Try.func63, Try.ntmps63
  go_wp2_with (refine wpList_make_full _ rfl _ _ 69 rfl w.heap.size 4 i0 _ 1 Try.underlying69 hi hz0 hz1 .i64 .i64 _ _ cnt.length rfl rfl rfl rfl (by rw [hz2]; omega) (by unfold maxLen; omega) (Nat.le_refl _) ?_; intro w2 ho2 hg2)
  rw [made1 _ rfl] at ho2
  have hE2 : Ext w w2 := ⟨hg2.os, hg2.tape, hg2.output, hg2.size, fun k hk => hg2.block k hk (fun e => by cases e)⟩
  have hw2 : w.heap.size < w2.heap.size := (World.ownsRow.lt ho2 _ rfl).2
  have hla : RowT B w2 (some ⟨w.heap.size, 0, none⟩) cnt.length (List.replicate cnt.length false) := by
    unfold RowT
    rw [List.length_replicate, show bc (List.replicate cnt.length false) = List.replicate cnt.length (Value.bool false) by simp [bc]]
    exact own_mono ho2 hBw
  have hal := heap_alloc_new w2 (Obj.cells #[Value.int IntKind.i64 refs, Value.slice A cnt.length c, Value.slice (some ⟨w.heap.size, 0, none⟩) cnt.length cnt.length, Value.pointer none, Value.int IntKind.i64 0, Value.int IntKind.i64 0, Value.int IntKind.i64 0, Value.int IntKind.i64 0, Value.int IntKind.i64 0, Value.slice none 0 0, Value.int IntKind.i64 0] 74)
  have hE3 := hE2.trans (ext_alloc w2 (Obj.cells #[Value.int IntKind.i64 refs, Value.slice A cnt.length c, Value.slice (some ⟨w.heap.size, 0, none⟩) cnt.length cnt.length, Value.pointer none, Value.int IntKind.i64 0, Value.int IntKind.i64 0, Value.int IntKind.i64 0, Value.int IntKind.i64 0, Value.int IntKind.i64 0, Value.slice none 0 0, Value.int IntKind.i64 0] 74))
  refine calls_cutP (fun W => Ext w2 W ∧ Ext w W ∧ W.heap[w2.heap.size]? = some (.cells (rawC refs A cnt.length c (some ⟨w.heap.size, 0, none⟩) (List.replicate cnt.length false).length cnt.length (.pointer none) (.int .i64 0) (.int .i64 0) (.int .i64 0) (.int .i64 0) (.int .i64 0) none 0 0 0) 74 (0, 0))) ⟨ext_alloc _ _, hE3, by rw [List.length_replicate]; exact hal⟩ ?_
  rintro w3 ⟨hE23, hE, hd⟩
  have hs3 := hE23.size
  refine (settle_raw hd (own_ext hcn hE) (own_ext hla hE23) (by omega) (by have := hE.size; omega) (by simp) h2.2 (fun z hz => by have := h3 z hz; omega) ⟨by omega, by omega⟩ (by omega)).mono ?_
  rintro e w4 ⟨fp, fA, fc, rfl, q1, q2, q3, q4⟩
  have hE4 : Ext w w4 := by
    refine q4.to_ext hE (fun q o e => ?_)
    rcases e with e | e
    · omega
    · have e2 : w.heap.size = q := by injection e
      omega
  have hp4 : PoolS B 0 w4 ⟨w2.heap.size, A, c, some ⟨w.heap.size, 0, none⟩, cnt.length, fp, fA, fc, none, 0, []⟩ (loadS refs cnt) := by
    refine ⟨load_ok h1 h2 h3, ?_⟩
    have e0 : ((0 : Int) + ((0 : Nat) : Int)) = (((loadS refs cnt).floor : Nat) : Int) := rfl
    rw [← e0]
    exact q2
  have hs4 := hE.size
  have hs3' : w.heap.size ≤ w3.heap.size := hE.size
  have hft : ∀ q, (⟨w2.heap.size, A, c, some ⟨w.heap.size, 0, none⟩, cnt.length, fp, fA, fc, none, 0, []⟩ : Pm).foot q → blkOf A = some q ∨ w.heap.size ≤ q := by
    rintro q (hq | hq | hq | hq | hq | hq | ⟨b, hb, _⟩)
    · exact .inr (by dsimp only at hq; omega)
    · exact .inl hq
    · exact .inr (by injection hq with hq; dsimp only at hq; omega)
    · exact .inr (by dsimp only at hq; omega)
    · exact .inr (by have := q3 q hq; omega)
    · cases hq
    · cases hb
  have HP4 := Lib.hid hp4
  clear q1 q2 q3 q4 hE hE23 hd hE3 hal hla ho2 hg2 hp4
  go_wp2
  go_ret
  exact ⟨_, rfl, HP4.out, hE4, hft⟩
def newE (pages refs : Int) : Int := if rightB pages refs = true then 0 else 1
def loadE (refs : Int) (cs : List Int) : Int := if rightB cs.length refs = true then (if (cs.all fun c => decide (0 ≤ c ∧ c ≤ refs)) = true then 0 else 13) else 1
theorem new_pool {w : World} (pages refs : Int) : Calls Try.prog 32 #[.int .i64 pages, .int .i64 refs] w fun e w' => ∃ v, e = .returned (.tuple #[v, .int .i64 (newE pages refs)]) ∧ Ext w w' ∧
    ((¬ newE pages refs = 0 ∧ v = .pointer none) ∨ (newE pages refs = 0 ∧ ∃ m', v = .pointer (some ⟨m'.p, 0, none⟩) ∧ PoolS w.heap.size 0 w' m' (newS refs pages.toNat))) := by
  have hr := right_any pages refs (w := w)
  unfold newE
  by_cases h : rightB pages refs = true
  · rw [if_pos h]
    obtain ⟨i0, hi, hz0, hz1, hz2⟩ := info_split infoI
    obtain ⟨h1, h2, h3, h4⟩ := of_decide_eq_true h
    obtain ⟨n, rfl⟩ : ∃ n : Nat, pages = n := ⟨pages.toNat, by omega⟩
    rw [h] at hr
    clear h
    go_enter Try.func32, Try.ntmps32
    go_wp2_with fail
    refine hr.mono ?_
    rintro e w2 ⟨rfl, rfl⟩
    go_wp2_with (refine wpList_make_full _ rfl _ _ 22 rfl w.heap.size 3 i0 _ 1 Try.underlying22 hi hz0 hz1 .i64 .i64 _ _ n rfl rfl rfl rfl (by rw [hz2]; omega) (by unfold maxLen; omega) (Nat.le_refl _) ?_; intro w2 ho2 hg2)
    rw [made1 _ rfl] at ho2
    have hE2 : Ext w w2 := ⟨hg2.os, hg2.tape, hg2.output, hg2.size, fun k hk => hg2.block k hk (fun e => by cases e)⟩
    have hcn : RowI w.heap.size w2 (some ⟨w.heap.size, 0, none⟩) n (List.replicate n 0) := by
      unfold RowI
      rw [List.length_replicate, show ic (List.replicate n 0) = List.replicate n (Value.int .i64 0) by simp [ic]]
      exact ho2
    have hov := over_any hcn hE2.size (refs := refs) ⟨h3, by omega⟩ (by simp; omega) (fun c hc => by rw [List.eq_of_mem_replicate hc]; omega)
    rw [List.length_replicate] at hov
    refine hov.mono ?_
    rintro e w3 ⟨m', rfl, q1, q2, q3⟩
    have hE3 := hE2.trans q2
    clear hov hcn ho2 hg2 hE2 hr q2 q3
    go_wp2
    refine bodyPost_ret (results_tmp2 rfl _ _ _) rfl ?_
    refine ⟨_, rfl, hE3, .inr ⟨by trivial, m', rfl, ?_⟩⟩
    rw [Int.toNat_natCast, new_load]
    exact q1
  · rw [if_neg h]
    rw [Bool.eq_false_iff.2 h] at hr
    go_enter Try.func32, Try.ntmps32
    go_wp2_with fail
    refine hr.mono ?_
    rintro e w2 ⟨rfl, rfl⟩
    go_wp2
    refine bodyPost_ret (results_tmp2 rfl _ _ _) rfl ?_
    exact ⟨_, rfl, Below.refl _ _, .inl ⟨by decide, rfl⟩⟩
end Go.Proofs.Ytaalhicdeibodaa
