/- Layer 3: the contract of tuple.Begin. No condition but that the list lies in memory and that its texts are no longer than 2^40. -/
import Derived.Test.YtbjfgnkjmfcokaaTencw
import Derived.Test.YtbjfgnkjmfcokaaClone
namespace Go.Proofs.Ytbjfgnkjmfcokaa
open Go.RowKit Go.Proofs
set_option linter.unusedVariables false
/-- The range's end. -/
def hiO (l : List Vl) : List UInt8 := if encE l = 0 then encB l ++ [255] else []
theorem hiO_none {l : List Vl} (h : encE l ≠ 0) : hiO l = [] := by
  unfold hiO
  rw [if_neg h]
theorem hiO_some {l : List Vl} (h : encE l = 0) : hiO l = encO l ++ [255] := by
  unfold hiO encO
  rw [if_pos h, if_pos h]
theorem length_hiO (l : List Vl) : (hiO l).length ≤ 4097 := by
  by_cases h : encE l = 0
  · have := length_encO l
    rw [hiO_some h]
    simp
    omega
  · rw [hiO_none h]
    simp
theorem results_row_tmp3 {P : Program} {fn : Func} {p u : Tmp} {ty : TypeId} (h : fn.results = #[.cell p ty, .tmp u]) (tmps : Array Value) (w : World) (g : Nat) (t : TypeId) (cs : Array Value) (fr : Nat × Nat) (d : TypeDesc)
    (hp : tmps.getD p undef = .pointer (some ⟨g, 0, none⟩)) (hg : w.heap[g]? = some (.cells cs t fr))
    (hu : P.underlying ty = some d) (hd : (match d with | .struct _ | .array _ _ => true | _ => false) = true) (hi : (P.info? ty).map (·.size) = some cs.size) :
    (results fn tmps).run P w = .ok (.tuple #[.agg cs, tmps.getD u undef]) w := by
  rw [results_cell_tmp h]
  simp only [hp, asAddr, Sem.run_pure, Result.andThen_ok, run_loadVar_row w g t ty cs fr d hg hu hd hi]
theorem noShare_none {v : Value} : NoShare (.slice none 0 0) v := fun g h => by cases h
set_option maxRecDepth 100000 in
set_option maxHeartbeats 1000000 in
theorem begin_any {w : World} {A : Option Addr} {c : Nat} {l : List Vl} (h : PL w A c l) (ht : ∀ v ∈ l, v.text.length ≤ 1099511627776) :
    Calls Try.prog 20 #[.slice A l.length c] w fun e w' => ∃ A1 c1 A2 c2, e = .returned (.tuple #[.agg #[.slice A1 (encO l).length c1, .slice A2 (hiO l).length c2, .bool false], .int .i64 (encE l)]) ∧
      Own 5 w.heap.size w' A1 c1 (encO l) ∧ Own 5 w.heap.size w' A2 c2 (hiO l) ∧ NoShare (.slice A1 (encO l).length c1) (.slice A2 (hiO l).length c2) ∧ Ext w w' := by
  obtain ⟨i0, hi, hz0, hz1, hz2⟩ := info_parts infoU8
  have hE0 := ext_alloc w (Obj.cells #[.slice none 0 0, .slice none 0 0, .bool false] 34)
  have hb0 := heap_alloc_new w (Obj.cells #[.slice none 0 0, .slice none 0 0, .bool false] 34)
  have hlo := length_encO l
  have hx := @hiO_some l
  have hy := @hiO_none l
  have hz := @encO_none l
  have HT := tEncode_any (h.ext hE0) ht
  generalize encE l = en at hx hy hz HT ⊢
  generalize hiO l = up at hx hy ⊢
  generalize encO l = lo at hx hz hlo HT ⊢
  have HX := Lib.hid hx
  have HY := Lib.hid hy
  have HZ := Lib.hid hz
  clear hx hy hz
  go_enter Try.func20, Try.ntmps20
  go_wp2_with fail
  refine HT.mono ?_
  clear HT
  rintro e w1 ⟨A1, c1, rfl, ho1, hE1⟩
  have hb1 := hE1.blk hb0
  have hE2 := hE0.trans hE1
  have hlt : w.heap.size < w1.heap.size := (Array.getElem?_eq_some_iff.1 hb1).1
  have ho1' := ho1
  rw [World.size_alloc] at ho1'
  clear ho1 hb0
  by_cases hz : en = 0
  · subst hz
    have HH := Lib.hid (HX.out rfl)
    clear HX HY HZ
    go_wp2_with fail
    refine (clone_any (ho1'.sl (by omega)) rfl).mono ?_
    rintro e w2 ⟨A2, c2, rfl, ho2, hE3⟩
    have hb2 := hE3.blk hb1
    have hE4 := hE2.trans hE3
    have hns1 := Lib.hid (noShare_of ho1' (Nat.le_refl _) ho2)
    have ho3 := ho1'.ext hE3
    have hsz := hE3.size
    go_wp2_with (first | (at_builtin; refine wpList_append_own _ rfl _ _ 30 rfl w1.heap.size 5 i0 (.int .u8 0) 1 1 Try.underlying30 hi hz0 hz1 hz2 rfl (by decide) _ _ _ rfl (World.ownsRow.alloc ho2 _) ⟨w2.heap.size, 0, none⟩ 1 1 [.int .u8 255] rfl rfl (cell_one_new _ _ _) (by simp [Value.oneCell']) (by simp [maxLen]; omega) (by omega) (by simp; omega) ?_; intro v' w4 hown4 hgrow4 _; obtain ⟨A4, c4, rfl, ho4, hX4⟩ := own_push 255 (exc_refl _ w2) ho2 hgrow4 hown4 rfl; have hb4 := hX4.blk hb2 (u8_box (by decide)); clear hown4 hgrow4) | (refine wpList_store_box rfl 34 _ _ rfl w.heap.size _ rfl rfl 34 _ hb4 (by kernel_rfl) rfl (by simp [Value.oneCell']) ?_; intro w3 hb3 hg3))
    have hE5 : Ext w1 w4 := U8.to_ext hX4 hE3 (Nat.le_refl _)
    have hns2 := Lib.hid (noShare_of ho1' (Nat.le_refl _) ho4)
    have hE6 := ext_only (hE2.trans hE5) hg3 (Nat.le_refl _)
    have ho5 := (ho1'.ext hE5).only hg3 (Nat.lt_succ_self _)
    have ho6 := ho4.only hg3 hlt
    have HL : Hid (lo.length + 1 = up.length) := Lib.hid (by rw [HH.out]; simp)
    go_wp2
    refine bodyPost_ret (results_row_tmp3 rfl _ _ _ _ _ _ _ rfl hb3 Try.underlying34 rfl (by kernel_rfl)) rfl ⟨A1, c1, A4, c4, ?_, ho5.mono (Nat.le_succ _), ?_, ?_, hE6⟩
    · rw [← HL.out]; rfl
    · rw [HH.out]; exact ho6.mono (by omega)
    · rw [HH.out]; exact hns2.out
  · have HH := Lib.hid (HY.out hz)
    have HG := Lib.hid (HZ.out hz)
    clear HX HY HZ
    go_wp2_with (refine wpList_store_box rfl 34 _ _ rfl w.heap.size _ rfl rfl 34 _ hb1 (by kernel_rfl) rfl (by simp [Value.oneCell']) ?_; intro w3 hb3 hg3)
    have hE6 := ext_only hE2 hg3 (Nat.le_refl _)
    go_wp2
    refine bodyPost_ret (results_row_tmp3 rfl _ _ _ _ _ _ _ rfl hb3 Try.underlying34 rfl (by kernel_rfl)) rfl ⟨none, 0, none, 0, ?_, ?_, ?_, ?_, hE6⟩
    · rw [HG.out, HH.out]; rfl
    · rw [HG.out]; exact own_nil
    · rw [HH.out]; exact own_nil
    · rw [HG.out, HH.out]; exact noShare_none
end Go.Proofs.Ytbjfgnkjmfcokaa
