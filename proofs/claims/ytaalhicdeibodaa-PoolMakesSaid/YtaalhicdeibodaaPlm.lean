/- Layer 10: the walk of PoolMakes. No condition but the sizes. -/
import Derived.Test.YtaalhicdeibodaaParg
import Derived.Test.YtaalhicdeibodaaPx
import Derived.Test.YtaalhicdeibodaaPy
namespace Go.Proofs.Ytaalhicdeibodaa
open Go.RowKit Go.Proofs Go.Shelf
set_option linter.unusedVariables false
theorem pmakes_any {w : World} {v : Value} {b : Bgn} (hb : BgV w v b) :
    Calls Try.prog 6 #[v] w fun e w' => e = .returned (.bool true) ∧ Ext w w' := by
  obtain ⟨⟨A, c, rfl, hx, hl⟩⟩ := hb
  have hE1 := ext_alloc w (Obj.cells #[.bool b.ld, .int .i64 b.pages, .int .i64 b.refs, .slice A b.cs.length c] 24)
  have hbn := heap_alloc_new w (Obj.cells #[.bool b.ld, .int .i64 b.pages, .int .i64 b.refs, .slice A b.cs.length c] 24)
  have hf := fixed_any (w := w.alloc (Obj.cells #[.bool b.ld, .int .i64 b.pages, .int .i64 b.refs, .slice A b.cs.length c] 24))
  go_enter Try.func6, Try.ntmps6
  go_wp2_with fail
  refine hf.mono ?_
  rintro e w2 ⟨rfl, hE2⟩
  have hb2 := hE2.blk hbn
  have c0 := cell_of_row w2 w.heap.size 0 _ _ _ hb2
  have c1 := cell_of_row w2 w.heap.size 1 _ _ _ hb2
  have c2 := cell_of_row w2 w.heap.size 2 _ _ _ hb2
  have c3 := cell_of_row w2 w.heap.size 3 _ _ _ hb2
  simp only [List.getElem?_toArray, List.getElem?_cons_zero, List.getElem?_cons_succ] at c0 c1 c2 c3
  have hE12 := hE1.trans hE2
  have hm := made_any b (hx.ext hE12) hl
  clear hf hbn hb2 hE1 hE2
  go_wp2_with fail
  refine hm.mono ?_
  rintro e w3 ⟨v, u, rfl, hmd, hE3⟩
  have hE13 := hE12.trans hE3
  clear hm c0 c1 c2 c3
  rcases hmd with ⟨_, rfl, rfl⟩ | ⟨_, m, r, rfl, rfl, hB⟩
  · go_wp2
    go_ret
    exact ⟨rfl, hE13⟩
  · have hk := likely_any hB.p hB.q (by omega)
    go_wp2_with fail
    refine hk.mono ?_
    rintro e w4 ⟨rfl, hE4⟩
    clear hk
    go_wp2
    go_ret
    exact ⟨rfl, hE13.trans hE4⟩
end Go.Proofs.Ytaalhicdeibodaa
