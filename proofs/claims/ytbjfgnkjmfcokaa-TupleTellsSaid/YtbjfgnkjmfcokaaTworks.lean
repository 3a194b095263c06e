/- Layer 3: the contract of works. No condition. -/
import Derived.Test.YtbjfgnkjmfcokaaTdecw
namespace Go.Proofs.Ytbjfgnkjmfcokaa
open Go.RowKit Go.Proofs
set_option linter.unusedVariables false
def wE : List Vl := [{ Vl.zero with kind := 2, int := 256 }, { Vl.zero with kind := 5, text := [97] }]
def wD : List Vl := [{ Vl.zero with kind := 2, int := -2 }, { Vl.zero with kind := 1, bool := true }]
theorem widthN_1 : widthN 1 = 1 := by rw [widthN_pos (by decide), show 1 / 256 = 0 by decide, widthN_zero]
theorem widthN_256 : widthN 256 = 2 := by rw [widthN_pos (by decide), show 256 / 256 = 1 by decide, widthN_1]
theorem wE_enc : encO wE = [34, 1, 0, 64, 97, 0] ∧ encE wE = 0 := by
  have hb : encB wE = [34, 1, 0, 64, 97, 0] := by
    unfold encB wE
    simp only [List.flatMap_cons, List.flatMap_nil, List.append_nil]
    rw [put_int_kind]
    have h1 : putI 256 = [34, 1, 0] := by
      unfold putI
      rw [if_pos (by decide), show (256 : Int).toNat = 256 from rfl, widthN_256]
      rfl
    rw [h1]
    rfl
  have hv : wE.all validV = true := by rfl
  obtain ⟨h1, h2⟩ := encE_fine hv (by rw [hb]; decide)
  exact ⟨by rw [h2, hb], h1⟩
theorem wD_dec : decO [30, 254, 3] = wD ∧ decE [30, 254, 3] = 0 := by
  refine decO_of (by decide) ?_
  have h1 := int_get (c := 30) (r := [254, 3]) (by decide) (by decide) (by decide) 1 (by decide)
  have e1 : intN (30 : UInt8).toNat = 1 := by decide
  rw [e1] at h1
  obtain ⟨a1, a2, a3⟩ := h1.1 ⟨widthN_1, by decide⟩
  obtain ⟨b1, b2, b3⟩ := bool_get (c := 3) (r := []) (by decide)
  have hs : decL [3] = ([{ Vl.zero with kind := 1, bool := true }], 0) := by
    rw [decL_step (by simp) b2, b1]
    simp only [List.drop_succ_cons, List.drop_zero, decL_nil]
    rw [b3]
    rfl
  rw [decL_step (by simp) a1, a2]
  simp only [List.drop_succ_cons, List.drop_zero, hs]
  rw [a3]
  rfl
theorem wE_ok : ∀ v ∈ wE, v.Ok := by
  intro v hv
  simp only [wE, List.mem_cons, List.not_mem_nil, or_false] at hv
  rcases hv with rfl | rfl <;> exact ⟨by decide, by decide, by decide, by decide, by decide, by decide⟩
theorem wD_ok : ∀ v ∈ wD, v.Ok := by
  intro v hv
  simp only [wD, List.mem_cons, List.not_mem_nil, or_false] at hv
  rcases hv with rfl | rfl <;> exact ⟨by decide, by decide, by decide, by decide, by decide, by decide⟩
theorem wE_text : ∀ v ∈ wE, v.text.length ≤ 1099511627776 := by
  intro v hv
  simp only [wE, List.mem_cons, List.not_mem_nil, or_false] at hv
  rcases hv with rfl | rfl <;> decide
theorem Sl.litw {w : World} {g : Nat} (bs : List UInt8) (fr : Nat × Nat) (h : w.heap[g]? = some (.cells (cells8 bs).toArray 5 fr)) (hl : bs.length ≤ 64) : Sl w (some ⟨g, 0, none⟩) bs.length bs := by
  refine ⟨fun _ => ⟨g, 0, rfl, fun i hi => ?_⟩, by omega, Nat.le_refl _, by omega⟩
  rw [cell_of_row w g _ _ _ fr h, Nat.zero_add]
  have := cells8_at hi
  simpa using this
theorem DL.lit {w : World} {g : Nat} {l : List Vl} (h : w.heap[g]? = some (.cells (l.flatMap Vl.dc).toArray 51 (0, 0))) (hl : l.length ≤ 2199023255552) (hok : ∀ v ∈ l, v.Ok) : DL w (some ⟨g, 0, none⟩) l.length l := by
  refine ⟨fun hn => ⟨g, 0, rfl, fun i v j u hv hu => ?_⟩, hl, Nat.le_refl _, by omega, hok⟩
  have hj : j < 7 := (List.getElem?_eq_some_iff.1 hu).1
  rw [cell_of_row w g _ _ _ _ h, Nat.zero_add]
  simp only [List.getElem?_toArray]
  rw [flat_at Vl.dc 7 len_dc l i j v hv hj, hu]
set_option maxRecDepth 100000 in
set_option maxHeartbeats 1000000 in
theorem works_any {w : World} : Calls Try.prog 24 #[] w fun e w' => e = .returned (.bool true) ∧ Ext w w' := by
  go_enter Try.func24, Try.ntmps24
  go_wp2_with fail
  have hv1 : VBlk (w.alloc (Obj.cells #[.int .i64 2, .bool false, .int .i64 256, .float .f64 0, .complex .f64 0 0, .string { data := #[] }, .int .i64 5, .bool false, .int .i64 0, .float .f64 0, .complex .f64 0 0, .string { data := #[97] }] 56)) w.heap.size wE := heap_alloc_new w _
  have HT := tEncode_any (hv1.pl (m := wE) rfl (by decide) wE_ok) wE_text
  rw [wE_enc.1, wE_enc.2] at HT
  refine HT.mono ?_
  rintro e w2 ⟨A2, c2, rfl, ho2, hE2⟩
  replace hE2 := (ext_alloc w _).trans hE2
  have s2 := ho2.sl (by decide)
  clear HT hv1 ho2
  have s3 : Sl (w2.alloc (Obj.cells #[.int .u8 30, .int .u8 254, .int .u8 3] 5)) (some ⟨w2.heap.size, 0, none⟩) 3 [30, 254, 3] := Sl.litw [30, 254, 3] (0, 0) (heap_alloc_new w2 _) (by decide)
  have HT := tDecode_any s3
  rw [wD_dec.1, wD_dec.2] at HT
  go_wp2_with fail
  refine HT.mono ?_
  rintro e w4 ⟨A4, c4, rfl, ho4, hE4⟩
  replace hE4 := (ext_alloc w2 _).trans hE4
  have p4 := ho4.vl len_pc (by decide) wD_ok
  replace s2 := s2.ext hE4
  have hE := hE2.trans hE4
  clear HT s3 ho4 hE2 hE4
  have s5 : Sl (w4.alloc (Obj.cells #[.int .u8 34, .int .u8 1, .int .u8 0, .int .u8 64, .int .u8 97, .int .u8 0] 5)) (some ⟨w4.heap.size, 0, none⟩) 6 [34, 1, 0, 64, 97, 0] := Sl.litw [34, 1, 0, 64, 97, 0] (0, 0) (heap_alloc_new w4 _) (by decide)
  have HT := eqBytes_any (s2.ext (ext_alloc w4 _)) s5
  rw [eqB_self] at HT
  go_wp2_with fail
  refine HT.mono ?_
  rintro e w6 ⟨rfl, hE6⟩
  replace hE6 := (ext_alloc w4 _).trans hE6
  clear HT s5 s2
  have d7 : DL (w6.alloc (Obj.cells #[.int .i64 2, .bool false, .int .i64 (-2), .int .u64 0, .int .u64 0, .int .u64 0, .string { data := #[] }, .int .i64 1, .bool true, .int .i64 0, .int .u64 0, .int .u64 0, .int .u64 0, .string { data := #[] }] 51)) (some ⟨w6.heap.size, 0, none⟩) 2 wD := DL.lit (heap_alloc_new w6 _) (by decide) wD_ok
  have HT := like_any ((p4.ext hE6).ext (ext_alloc w6 _)) d7
  rw [decide_eq_true rfl] at HT
  replace hE := (hE.trans hE6).trans (ext_alloc w6 (Obj.cells #[.int .i64 2, .bool false, .int .i64 (-2), .int .u64 0, .int .u64 0, .int .u64 0, .string { data := #[] }, .int .i64 1, .bool true, .int .i64 0, .int .u64 0, .int .u64 0, .int .u64 0, .string { data := #[] }] 51))
  clear p4 d7 hE6
  go_wp2_with fail
  refine HT.mono ?_
  rintro e w8 ⟨rfl, hE8⟩
  clear HT
  go_wp2
  go_ret
  exact ⟨rfl, hE.trans hE8⟩
end Go.Proofs.Ytbjfgnkjmfcokaa
