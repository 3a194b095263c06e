/- SpanAnswers: asked, kind by kind. No condition but sizes. -/
import Derived.Test.YtijlaknfagpglaaSqa
namespace Go.Proofs.Ytijlaknfagpglaa
open Go.RowKit Go.Proofs
set_option linter.unusedVariables false
set_option linter.unusedSimpArgs false
set_option maxRecDepth 100000 in
set_option maxHeartbeats 2000000 in
theorem asked0 {w : World} {o : Opn} (h : OpR w o) (hk : o.kind = 0) : Calls Try.prog 35 #[o.v] w (AskQ true w o.p) := by
  obtain ⟨kd, aA, ac, a, bA, bc, b, ⟨rlA, rlc, rlo, rhA, rhc, rhi, rop⟩, ⟨slA, slc, slo, shA, shc, shi, sop⟩, lA, lc, l⟩ := o
  obtain ⟨sa, sb, srl, srh, ssl, ssh, sl, hn, hle, hcap, za, zb, zrl, zrh, zsl, zsh, zl⟩ := h
  dsimp only [Opn.v] at hk sa sb srl srh ssl ssh sl hn hle hcap za zb zrl zrh zsl zsh zl ⊢
  subst hk
  have hp : AnsIs (Opn.p ⟨0, aA, ac, a, bA, bc, b, ⟨rlA, rlc, rlo, rhA, rhc, rhi, rop⟩, ⟨slA, slc, slo, shA, shc, shi, sop⟩, lA, lc, l⟩) ⟨cmpB a b, false, [], []⟩ := rfl
  have hE := (ext_alloc w (Obj.cells #[.int .i64 0, .slice aA a.length ac, .slice bA b.length bc, .slice rlA rlo.length rlc, .slice rhA rhi.length rhc, .bool rop, .slice slA slo.length slc, .slice shA shi.length shc, .bool sop, .slice lA l.length lc] 47)).trans (ext_alloc (w.alloc (Obj.cells #[.int .i64 0, .slice aA a.length ac, .slice bA b.length bc, .slice rlA rlo.length rlc, .slice rhA rhi.length rhc, .bool rop, .slice slA slo.length slc, .slice shA shi.length shc, .bool sop, .slice lA l.length lc] 47)) (Obj.cells #[.int .i64 0, .bool false, .slice none 0 0, .slice none 0 0] 50))
  have hb2 := heap_alloc_new (w.alloc (Obj.cells #[.int .i64 0, .slice aA a.length ac, .slice bA b.length bc, .slice rlA rlo.length rlc, .slice rhA rhi.length rhc, .bool rop, .slice slA slo.length slc, .slice shA shi.length shc, .bool sop, .slice lA l.length lc] 47)) (Obj.cells #[.int .i64 0, .bool false, .slice none 0 0, .slice none 0 0] 50)
  have hsz : ((w.alloc (Obj.cells #[.int .i64 0, .slice aA a.length ac, .slice bA b.length bc, .slice rlA rlo.length rlc, .slice rhA rhi.length rhc, .bool rop, .slice slA slo.length slc, .slice shA shi.length shc, .bool sop, .slice lA l.length lc] 47)).alloc (Obj.cells #[.int .i64 0, .bool false, .slice none 0 0, .slice none 0 0] 50)).heap.size = w.heap.size + 2 := by simp
  rw [show (w.alloc (Obj.cells #[.int .i64 0, .slice aA a.length ac, .slice bA b.length bc, .slice rlA rlo.length rlc, .slice rhA rhi.length rhc, .bool rop, .slice slA slo.length slc, .slice shA shi.length shc, .bool sop, .slice lA l.length lc] 47)).heap.size = w.heap.size + 1 by simp] at hb2
  have hc := scmp_any (sa.ext hE) (sb.ext hE) rfl rfl
  try rw [hsz] at hc
  go_enter Try.func35, Try.ntmps35
  go_wp2_with fail
  refine hc.mono ?_
  rintro e w2 ⟨rfl, hE2⟩
  clear hc
  replace hb2 := hE2.blk hb2
  have hA : AnsO true (w.heap.size + 2) w2 _ ⟨cmpB a b, false, [], []⟩ := AnsO.n (cmpB a b) false
  have HA := Lib.hid hA
  clear hA
  go_wp2_with (refine wpList_store_box rfl 50 _ _ rfl (w.heap.size + 1) _ rfl rfl 50 _ hb2 (by kernel_rfl) rfl (by simp [Value.oneCell']) ?_; intro w4 hb hg)
  have hA := HA.out
  exact bodyPost_ret (results_cell_row rfl _ _ _ _ _ _ _ rfl hb Try.underlying50 rfl (by kernel_rfl)) rfl (ask_fin (hE.trans hE2) hA hp hg)
set_option maxRecDepth 100000 in
set_option maxHeartbeats 2000000 in
theorem asked1 {w : World} {o : Opn} (h : OpR w o) (hk : o.kind = 1) : Calls Try.prog 35 #[o.v] w (AskQ true w o.p) := by
  obtain ⟨kd, aA, ac, a, bA, bc, b, ⟨rlA, rlc, rlo, rhA, rhc, rhi, rop⟩, ⟨slA, slc, slo, shA, shc, shi, sop⟩, lA, lc, l⟩ := o
  obtain ⟨sa, sb, srl, srh, ssl, ssh, sl, hn, hle, hcap, za, zb, zrl, zrh, zsl, zsh, zl⟩ := h
  dsimp only [Opn.v] at hk sa sb srl srh ssl ssh sl hn hle hcap za zb zrl zrh zsl zsh zl ⊢
  subst hk
  have hp : AnsIs (Opn.p ⟨1, aA, ac, a, bA, bc, b, ⟨rlA, rlc, rlo, rhA, rhc, rhi, rop⟩, ⟨slA, slc, slo, shA, shc, shi, sop⟩, lA, lc, l⟩) ⟨0, false, nextB a, []⟩ := rfl
  have hE := (ext_alloc w (Obj.cells #[.int .i64 1, .slice aA a.length ac, .slice bA b.length bc, .slice rlA rlo.length rlc, .slice rhA rhi.length rhc, .bool rop, .slice slA slo.length slc, .slice shA shi.length shc, .bool sop, .slice lA l.length lc] 47)).trans (ext_alloc (w.alloc (Obj.cells #[.int .i64 1, .slice aA a.length ac, .slice bA b.length bc, .slice rlA rlo.length rlc, .slice rhA rhi.length rhc, .bool rop, .slice slA slo.length slc, .slice shA shi.length shc, .bool sop, .slice lA l.length lc] 47)) (Obj.cells #[.int .i64 0, .bool false, .slice none 0 0, .slice none 0 0] 50))
  have hb2 := heap_alloc_new (w.alloc (Obj.cells #[.int .i64 1, .slice aA a.length ac, .slice bA b.length bc, .slice rlA rlo.length rlc, .slice rhA rhi.length rhc, .bool rop, .slice slA slo.length slc, .slice shA shi.length shc, .bool sop, .slice lA l.length lc] 47)) (Obj.cells #[.int .i64 0, .bool false, .slice none 0 0, .slice none 0 0] 50)
  have hsz : ((w.alloc (Obj.cells #[.int .i64 1, .slice aA a.length ac, .slice bA b.length bc, .slice rlA rlo.length rlc, .slice rhA rhi.length rhc, .bool rop, .slice slA slo.length slc, .slice shA shi.length shc, .bool sop, .slice lA l.length lc] 47)).alloc (Obj.cells #[.int .i64 0, .bool false, .slice none 0 0, .slice none 0 0] 50)).heap.size = w.heap.size + 2 := by simp
  rw [show (w.alloc (Obj.cells #[.int .i64 1, .slice aA a.length ac, .slice bA b.length bc, .slice rlA rlo.length rlc, .slice rhA rhi.length rhc, .bool rop, .slice slA slo.length slc, .slice shA shi.length shc, .bool sop, .slice lA l.length lc] 47)).heap.size = w.heap.size + 1 by simp] at hb2
  have hc := next_any (sa.ext hE) rfl
  try rw [hsz] at hc
  go_enter Try.func35, Try.ntmps35
  go_wp2_with fail
  refine hc.mono ?_
  rintro e w2 ⟨A9, c9, rfl, ho, hE2⟩
  clear hc
  replace hb2 := hE2.blk hb2
  have hA : AnsO true (w.heap.size + 2) w2 _ ⟨0, false, nextB a, []⟩ := AnsO.k 0 false ho (small24 (nextB_length a))
  have HA := Lib.hid hA
  clear hA
  go_wp2_with (refine wpList_store_box rfl 50 _ _ rfl (w.heap.size + 1) _ rfl rfl 50 _ hb2 (by kernel_rfl) rfl (by simp [Value.oneCell']) ?_; intro w4 hb hg)
  have hA := HA.out
  exact bodyPost_ret (results_cell_row rfl _ _ _ _ _ _ _ rfl hb Try.underlying50 rfl (by kernel_rfl)) rfl (ask_fin (hE.trans hE2) hA hp hg)
set_option maxRecDepth 100000 in
set_option maxHeartbeats 2000000 in
theorem asked2 {w : World} {o : Opn} (h : OpR w o) (hk : o.kind = 2) : Calls Try.prog 35 #[o.v] w (AskQ true w o.p) := by
  obtain ⟨kd, aA, ac, a, bA, bc, b, ⟨rlA, rlc, rlo, rhA, rhc, rhi, rop⟩, ⟨slA, slc, slo, shA, shc, shi, sop⟩, lA, lc, l⟩ := o
  obtain ⟨sa, sb, srl, srh, ssl, ssh, sl, hn, hle, hcap, za, zb, zrl, zrh, zsl, zsh, zl⟩ := h
  dsimp only [Opn.v] at hk sa sb srl srh ssl ssh sl hn hle hcap za zb zrl zrh zsl zsh zl ⊢
  subst hk
  have hp : AnsIs (Opn.p ⟨2, aA, ac, a, bA, bc, b, ⟨rlA, rlc, rlo, rhA, rhc, rhi, rop⟩, ⟨slA, slc, slo, shA, shc, shi, sop⟩, lA, lc, l⟩) ⟨(comB a b : Int), false, [], []⟩ := rfl
  have hE := (ext_alloc w (Obj.cells #[.int .i64 2, .slice aA a.length ac, .slice bA b.length bc, .slice rlA rlo.length rlc, .slice rhA rhi.length rhc, .bool rop, .slice slA slo.length slc, .slice shA shi.length shc, .bool sop, .slice lA l.length lc] 47)).trans (ext_alloc (w.alloc (Obj.cells #[.int .i64 2, .slice aA a.length ac, .slice bA b.length bc, .slice rlA rlo.length rlc, .slice rhA rhi.length rhc, .bool rop, .slice slA slo.length slc, .slice shA shi.length shc, .bool sop, .slice lA l.length lc] 47)) (Obj.cells #[.int .i64 0, .bool false, .slice none 0 0, .slice none 0 0] 50))
  have hb2 := heap_alloc_new (w.alloc (Obj.cells #[.int .i64 2, .slice aA a.length ac, .slice bA b.length bc, .slice rlA rlo.length rlc, .slice rhA rhi.length rhc, .bool rop, .slice slA slo.length slc, .slice shA shi.length shc, .bool sop, .slice lA l.length lc] 47)) (Obj.cells #[.int .i64 0, .bool false, .slice none 0 0, .slice none 0 0] 50)
  have hsz : ((w.alloc (Obj.cells #[.int .i64 2, .slice aA a.length ac, .slice bA b.length bc, .slice rlA rlo.length rlc, .slice rhA rhi.length rhc, .bool rop, .slice slA slo.length slc, .slice shA shi.length shc, .bool sop, .slice lA l.length lc] 47)).alloc (Obj.cells #[.int .i64 0, .bool false, .slice none 0 0, .slice none 0 0] 50)).heap.size = w.heap.size + 2 := by simp
  rw [show (w.alloc (Obj.cells #[.int .i64 2, .slice aA a.length ac, .slice bA b.length bc, .slice rlA rlo.length rlc, .slice rhA rhi.length rhc, .bool rop, .slice slA slo.length slc, .slice shA shi.length shc, .bool sop, .slice lA l.length lc] 47)).heap.size = w.heap.size + 1 by simp] at hb2
  have hc := common_any (sa.ext hE) (sb.ext hE) rfl rfl
  try rw [hsz] at hc
  go_enter Try.func35, Try.ntmps35
  go_wp2_with fail
  refine hc.mono ?_
  rintro e w2 ⟨rfl, hE2⟩
  clear hc
  replace hb2 := hE2.blk hb2
  have hA : AnsO true (w.heap.size + 2) w2 _ ⟨(comB a b : Int), false, [], []⟩ := AnsO.n (comB a b) false
  have HA := Lib.hid hA
  clear hA
  go_wp2_with (refine wpList_store_box rfl 50 _ _ rfl (w.heap.size + 1) _ rfl rfl 50 _ hb2 (by kernel_rfl) rfl (by simp [Value.oneCell']) ?_; intro w4 hb hg)
  have hA := HA.out
  exact bodyPost_ret (results_cell_row rfl _ _ _ _ _ _ _ rfl hb Try.underlying50 rfl (by kernel_rfl)) rfl (ask_fin (hE.trans hE2) hA hp hg)
set_option maxRecDepth 100000 in
set_option maxHeartbeats 2000000 in
theorem asked3 {w : World} {o : Opn} (h : OpR w o) (hk : o.kind = 3) : Calls Try.prog 35 #[o.v] w (AskQ true w o.p) := by
  obtain ⟨kd, aA, ac, a, bA, bc, b, ⟨rlA, rlc, rlo, rhA, rhc, rhi, rop⟩, ⟨slA, slc, slo, shA, shc, shi, sop⟩, lA, lc, l⟩ := o
  obtain ⟨sa, sb, srl, srh, ssl, ssh, sl, hn, hle, hcap, za, zb, zrl, zrh, zsl, zsh, zl⟩ := h
  dsimp only [Opn.v] at hk sa sb srl srh ssl ssh sl hn hle hcap za zb zrl zrh zsl zsh zl ⊢
  subst hk
  have hp : AnsIs (Opn.p ⟨3, aA, ac, a, bA, bc, b, ⟨rlA, rlc, rlo, rhA, rhc, rhi, rop⟩, ⟨slA, slc, slo, shA, shc, shi, sop⟩, lA, lc, l⟩) ⟨0, (betwB a b).isSome, betwK a b, []⟩ := rfl
  have hE := (ext_alloc w (Obj.cells #[.int .i64 3, .slice aA a.length ac, .slice bA b.length bc, .slice rlA rlo.length rlc, .slice rhA rhi.length rhc, .bool rop, .slice slA slo.length slc, .slice shA shi.length shc, .bool sop, .slice lA l.length lc] 47)).trans (ext_alloc (w.alloc (Obj.cells #[.int .i64 3, .slice aA a.length ac, .slice bA b.length bc, .slice rlA rlo.length rlc, .slice rhA rhi.length rhc, .bool rop, .slice slA slo.length slc, .slice shA shi.length shc, .bool sop, .slice lA l.length lc] 47)) (Obj.cells #[.int .i64 0, .bool false, .slice none 0 0, .slice none 0 0] 50))
  have hb2 := heap_alloc_new (w.alloc (Obj.cells #[.int .i64 3, .slice aA a.length ac, .slice bA b.length bc, .slice rlA rlo.length rlc, .slice rhA rhi.length rhc, .bool rop, .slice slA slo.length slc, .slice shA shi.length shc, .bool sop, .slice lA l.length lc] 47)) (Obj.cells #[.int .i64 0, .bool false, .slice none 0 0, .slice none 0 0] 50)
  have hsz : ((w.alloc (Obj.cells #[.int .i64 3, .slice aA a.length ac, .slice bA b.length bc, .slice rlA rlo.length rlc, .slice rhA rhi.length rhc, .bool rop, .slice slA slo.length slc, .slice shA shi.length shc, .bool sop, .slice lA l.length lc] 47)).alloc (Obj.cells #[.int .i64 0, .bool false, .slice none 0 0, .slice none 0 0] 50)).heap.size = w.heap.size + 2 := by simp
  rw [show (w.alloc (Obj.cells #[.int .i64 3, .slice aA a.length ac, .slice bA b.length bc, .slice rlA rlo.length rlc, .slice rhA rhi.length rhc, .bool rop, .slice slA slo.length slc, .slice shA shi.length shc, .bool sop, .slice lA l.length lc] 47)).heap.size = w.heap.size + 1 by simp] at hb2
  have hc := between_any (sa.ext hE) (sb.ext hE) rfl rfl
  try rw [hsz] at hc
  go_enter Try.func35, Try.ntmps35
  go_wp2_with fail
  refine hc.mono ?_
  rintro e w2 ⟨A9, c9, rfl, ho, hE2⟩
  clear hc
  replace hb2 := hE2.blk hb2
  have hA : AnsO true (w.heap.size + 2) w2 _ ⟨0, (betwB a b).isSome, betwK a b, []⟩ := AnsO.k 0 (betwB a b).isSome ho (small_betw a b)
  have HA := Lib.hid hA
  clear hA
  go_wp2_with (refine wpList_store_box rfl 50 _ _ rfl (w.heap.size + 1) _ rfl rfl 50 _ hb2 (by kernel_rfl) rfl (by simp [Value.oneCell']) ?_; intro w4 hb hg)
  have hA := HA.out
  exact bodyPost_ret (results_cell_row rfl _ _ _ _ _ _ _ rfl hb Try.underlying50 rfl (by kernel_rfl)) rfl (ask_fin (hE.trans hE2) hA hp hg)
set_option maxRecDepth 100000 in
set_option maxHeartbeats 2000000 in
theorem asked4 {w : World} {o : Opn} (h : OpR w o) (hk : o.kind = 4) : Calls Try.prog 35 #[o.v] w (AskQ true w o.p) := by
  obtain ⟨kd, aA, ac, a, bA, bc, b, ⟨rlA, rlc, rlo, rhA, rhc, rhi, rop⟩, ⟨slA, slc, slo, shA, shc, shi, sop⟩, lA, lc, l⟩ := o
  obtain ⟨sa, sb, srl, srh, ssl, ssh, sl, hn, hle, hcap, za, zb, zrl, zrh, zsl, zsh, zl⟩ := h
  dsimp only [Opn.v] at hk sa sb srl srh ssl ssh sl hn hle hcap za zb zrl zrh zsl zsh zl ⊢
  subst hk
  have hp : AnsIs (Opn.p ⟨4, aA, ac, a, bA, bc, b, ⟨rlA, rlc, rlo, rhA, rhc, rhi, rop⟩, ⟨slA, slc, slo, shA, shc, shi, sop⟩, lA, lc, l⟩) ⟨0, hasB ⟨rlo, rhi, rop⟩ a, [], []⟩ := rfl
  have hE := (ext_alloc w (Obj.cells #[.int .i64 4, .slice aA a.length ac, .slice bA b.length bc, .slice rlA rlo.length rlc, .slice rhA rhi.length rhc, .bool rop, .slice slA slo.length slc, .slice shA shi.length shc, .bool sop, .slice lA l.length lc] 47)).trans (ext_alloc (w.alloc (Obj.cells #[.int .i64 4, .slice aA a.length ac, .slice bA b.length bc, .slice rlA rlo.length rlc, .slice rhA rhi.length rhc, .bool rop, .slice slA slo.length slc, .slice shA shi.length shc, .bool sop, .slice lA l.length lc] 47)) (Obj.cells #[.int .i64 0, .bool false, .slice none 0 0, .slice none 0 0] 50))
  have hb2 := heap_alloc_new (w.alloc (Obj.cells #[.int .i64 4, .slice aA a.length ac, .slice bA b.length bc, .slice rlA rlo.length rlc, .slice rhA rhi.length rhc, .bool rop, .slice slA slo.length slc, .slice shA shi.length shc, .bool sop, .slice lA l.length lc] 47)) (Obj.cells #[.int .i64 0, .bool false, .slice none 0 0, .slice none 0 0] 50)
  have hsz : ((w.alloc (Obj.cells #[.int .i64 4, .slice aA a.length ac, .slice bA b.length bc, .slice rlA rlo.length rlc, .slice rhA rhi.length rhc, .bool rop, .slice slA slo.length slc, .slice shA shi.length shc, .bool sop, .slice lA l.length lc] 47)).alloc (Obj.cells #[.int .i64 0, .bool false, .slice none 0 0, .slice none 0 0] 50)).heap.size = w.heap.size + 2 := by simp
  rw [show (w.alloc (Obj.cells #[.int .i64 4, .slice aA a.length ac, .slice bA b.length bc, .slice rlA rlo.length rlc, .slice rhA rhi.length rhc, .bool rop, .slice slA slo.length slc, .slice shA shi.length shc, .bool sop, .slice lA l.length lc] 47)).heap.size = w.heap.size + 1 by simp] at hb2
  have hc := has_any (op := rop) (srl.ext hE) (srh.ext hE) (sa.ext hE) rfl
  try rw [hsz] at hc
  go_enter Try.func35, Try.ntmps35
  go_wp2_with fail
  refine hc.mono ?_
  rintro e w2 ⟨rfl, hE2⟩
  clear hc
  replace hb2 := hE2.blk hb2
  have hA : AnsO true (w.heap.size + 2) w2 _ ⟨0, hasB ⟨rlo, rhi, rop⟩ a, [], []⟩ := AnsO.n 0 (hasB ⟨rlo, rhi, rop⟩ a)
  have HA := Lib.hid hA
  clear hA
  go_wp2_with (refine wpList_store_box rfl 50 _ _ rfl (w.heap.size + 1) _ rfl rfl 50 _ hb2 (by kernel_rfl) rfl (by simp [Value.oneCell']) ?_; intro w4 hb hg)
  have hA := HA.out
  exact bodyPost_ret (results_cell_row rfl _ _ _ _ _ _ _ rfl hb Try.underlying50 rfl (by kernel_rfl)) rfl (ask_fin (hE.trans hE2) hA hp hg)
set_option maxRecDepth 100000 in
set_option maxHeartbeats 2000000 in
theorem asked5 {w : World} {o : Opn} (h : OpR w o) (hk : o.kind = 5) : Calls Try.prog 35 #[o.v] w (AskQ true w o.p) := by
  obtain ⟨kd, aA, ac, a, bA, bc, b, ⟨rlA, rlc, rlo, rhA, rhc, rhi, rop⟩, ⟨slA, slc, slo, shA, shc, shi, sop⟩, lA, lc, l⟩ := o
  obtain ⟨sa, sb, srl, srh, ssl, ssh, sl, hn, hle, hcap, za, zb, zrl, zrh, zsl, zsh, zl⟩ := h
  dsimp only [Opn.v] at hk sa sb srl srh ssl ssh sl hn hle hcap za zb zrl zrh zsl zsh zl ⊢
  subst hk
  have hp : AnsIs (Opn.p ⟨5, aA, ac, a, bA, bc, b, ⟨rlA, rlc, rlo, rhA, rhc, rhi, rop⟩, ⟨slA, slc, slo, shA, shc, shi, sop⟩, lA, lc, l⟩) ⟨0, emptyB ⟨rlo, rhi, rop⟩, [], []⟩ := rfl
  have hE := (ext_alloc w (Obj.cells #[.int .i64 5, .slice aA a.length ac, .slice bA b.length bc, .slice rlA rlo.length rlc, .slice rhA rhi.length rhc, .bool rop, .slice slA slo.length slc, .slice shA shi.length shc, .bool sop, .slice lA l.length lc] 47)).trans (ext_alloc (w.alloc (Obj.cells #[.int .i64 5, .slice aA a.length ac, .slice bA b.length bc, .slice rlA rlo.length rlc, .slice rhA rhi.length rhc, .bool rop, .slice slA slo.length slc, .slice shA shi.length shc, .bool sop, .slice lA l.length lc] 47)) (Obj.cells #[.int .i64 0, .bool false, .slice none 0 0, .slice none 0 0] 50))
  have hb2 := heap_alloc_new (w.alloc (Obj.cells #[.int .i64 5, .slice aA a.length ac, .slice bA b.length bc, .slice rlA rlo.length rlc, .slice rhA rhi.length rhc, .bool rop, .slice slA slo.length slc, .slice shA shi.length shc, .bool sop, .slice lA l.length lc] 47)) (Obj.cells #[.int .i64 0, .bool false, .slice none 0 0, .slice none 0 0] 50)
  have hsz : ((w.alloc (Obj.cells #[.int .i64 5, .slice aA a.length ac, .slice bA b.length bc, .slice rlA rlo.length rlc, .slice rhA rhi.length rhc, .bool rop, .slice slA slo.length slc, .slice shA shi.length shc, .bool sop, .slice lA l.length lc] 47)).alloc (Obj.cells #[.int .i64 0, .bool false, .slice none 0 0, .slice none 0 0] 50)).heap.size = w.heap.size + 2 := by simp
  rw [show (w.alloc (Obj.cells #[.int .i64 5, .slice aA a.length ac, .slice bA b.length bc, .slice rlA rlo.length rlc, .slice rhA rhi.length rhc, .bool rop, .slice slA slo.length slc, .slice shA shi.length shc, .bool sop, .slice lA l.length lc] 47)).heap.size = w.heap.size + 1 by simp] at hb2
  have hc := empty_any (op := rop) (srl.ext hE) (srh.ext hE)
  try rw [hsz] at hc
  go_enter Try.func35, Try.ntmps35
  go_wp2_with fail
  refine hc.mono ?_
  rintro e w2 ⟨rfl, hE2⟩
  clear hc
  replace hb2 := hE2.blk hb2
  have hA : AnsO true (w.heap.size + 2) w2 _ ⟨0, emptyB ⟨rlo, rhi, rop⟩, [], []⟩ := AnsO.n 0 (emptyB ⟨rlo, rhi, rop⟩)
  have HA := Lib.hid hA
  clear hA
  go_wp2_with (refine wpList_store_box rfl 50 _ _ rfl (w.heap.size + 1) _ rfl rfl 50 _ hb2 (by kernel_rfl) rfl (by simp [Value.oneCell']) ?_; intro w4 hb hg)
  have hA := HA.out
  exact bodyPost_ret (results_cell_row rfl _ _ _ _ _ _ _ rfl hb Try.underlying50 rfl (by kernel_rfl)) rfl (ask_fin (hE.trans hE2) hA hp hg)
set_option maxRecDepth 100000 in
set_option maxHeartbeats 2000000 in
theorem asked6 {w : World} {o : Opn} (h : OpR w o) (hk : o.kind = 6) : Calls Try.prog 35 #[o.v] w (AskQ true w o.p) := by
  obtain ⟨kd, aA, ac, a, bA, bc, b, ⟨rlA, rlc, rlo, rhA, rhc, rhi, rop⟩, ⟨slA, slc, slo, shA, shc, shi, sop⟩, lA, lc, l⟩ := o
  obtain ⟨sa, sb, srl, srh, ssl, ssh, sl, hn, hle, hcap, za, zb, zrl, zrh, zsl, zsh, zl⟩ := h
  dsimp only [Opn.v] at hk sa sb srl srh ssl ssh sl hn hle hcap za zb zrl zrh zsl zsh zl ⊢
  subst hk
  have hp : AnsIs (Opn.p ⟨6, aA, ac, a, bA, bc, b, ⟨rlA, rlc, rlo, rhA, rhc, rhi, rop⟩, ⟨slA, slc, slo, shA, shc, shi, sop⟩, lA, lc, l⟩) ⟨0, equalB ⟨rlo, rhi, rop⟩ ⟨slo, shi, sop⟩, [], []⟩ := rfl
  have hE := (ext_alloc w (Obj.cells #[.int .i64 6, .slice aA a.length ac, .slice bA b.length bc, .slice rlA rlo.length rlc, .slice rhA rhi.length rhc, .bool rop, .slice slA slo.length slc, .slice shA shi.length shc, .bool sop, .slice lA l.length lc] 47)).trans (ext_alloc (w.alloc (Obj.cells #[.int .i64 6, .slice aA a.length ac, .slice bA b.length bc, .slice rlA rlo.length rlc, .slice rhA rhi.length rhc, .bool rop, .slice slA slo.length slc, .slice shA shi.length shc, .bool sop, .slice lA l.length lc] 47)) (Obj.cells #[.int .i64 0, .bool false, .slice none 0 0, .slice none 0 0] 50))
  have hb2 := heap_alloc_new (w.alloc (Obj.cells #[.int .i64 6, .slice aA a.length ac, .slice bA b.length bc, .slice rlA rlo.length rlc, .slice rhA rhi.length rhc, .bool rop, .slice slA slo.length slc, .slice shA shi.length shc, .bool sop, .slice lA l.length lc] 47)) (Obj.cells #[.int .i64 0, .bool false, .slice none 0 0, .slice none 0 0] 50)
  have hsz : ((w.alloc (Obj.cells #[.int .i64 6, .slice aA a.length ac, .slice bA b.length bc, .slice rlA rlo.length rlc, .slice rhA rhi.length rhc, .bool rop, .slice slA slo.length slc, .slice shA shi.length shc, .bool sop, .slice lA l.length lc] 47)).alloc (Obj.cells #[.int .i64 0, .bool false, .slice none 0 0, .slice none 0 0] 50)).heap.size = w.heap.size + 2 := by simp
  rw [show (w.alloc (Obj.cells #[.int .i64 6, .slice aA a.length ac, .slice bA b.length bc, .slice rlA rlo.length rlc, .slice rhA rhi.length rhc, .bool rop, .slice slA slo.length slc, .slice shA shi.length shc, .bool sop, .slice lA l.length lc] 47)).heap.size = w.heap.size + 1 by simp] at hb2
  have hc := equal_any (op := rop) (oq := sop) (srl.ext hE) (srh.ext hE) (ssl.ext hE) (ssh.ext hE)
  try rw [hsz] at hc
  go_enter Try.func35, Try.ntmps35
  go_wp2_with fail
  refine hc.mono ?_
  rintro e w2 ⟨rfl, hE2⟩
  clear hc
  replace hb2 := hE2.blk hb2
  have hA : AnsO true (w.heap.size + 2) w2 _ ⟨0, equalB ⟨rlo, rhi, rop⟩ ⟨slo, shi, sop⟩, [], []⟩ := AnsO.n 0 (equalB ⟨rlo, rhi, rop⟩ ⟨slo, shi, sop⟩)
  have HA := Lib.hid hA
  clear hA
  go_wp2_with (refine wpList_store_box rfl 50 _ _ rfl (w.heap.size + 1) _ rfl rfl 50 _ hb2 (by kernel_rfl) rfl (by simp [Value.oneCell']) ?_; intro w4 hb hg)
  have hA := HA.out
  exact bodyPost_ret (results_cell_row rfl _ _ _ _ _ _ _ rfl hb Try.underlying50 rfl (by kernel_rfl)) rfl (ask_fin (hE.trans hE2) hA hp hg)
set_option maxRecDepth 100000 in
set_option maxHeartbeats 2000000 in
theorem asked7 {w : World} {o : Opn} (h : OpR w o) (hk : o.kind = 7) : Calls Try.prog 35 #[o.v] w (AskQ true w o.p) := by
  obtain ⟨kd, aA, ac, a, bA, bc, b, ⟨rlA, rlc, rlo, rhA, rhc, rhi, rop⟩, ⟨slA, slc, slo, shA, shc, shi, sop⟩, lA, lc, l⟩ := o
  obtain ⟨sa, sb, srl, srh, ssl, ssh, sl, hn, hle, hcap, za, zb, zrl, zrh, zsl, zsh, zl⟩ := h
  dsimp only [Opn.v] at hk sa sb srl srh ssl ssh sl hn hle hcap za zb zrl zrh zsl zsh zl ⊢
  subst hk
  have hp : ∀ {r : Rg}, r = meetB ⟨rlo, rhi, rop⟩ ⟨slo, shi, sop⟩ → AnsIs (Opn.p ⟨7, aA, ac, a, bA, bc, b, ⟨rlA, rlc, rlo, rhA, rhc, rhi, rop⟩, ⟨slA, slc, slo, shA, shc, shi, sop⟩, lA, lc, l⟩) ⟨0, false, [], [r]⟩ := fun e => by rw [e]; rfl
  have hE := (ext_alloc w (Obj.cells #[.int .i64 7, .slice aA a.length ac, .slice bA b.length bc, .slice rlA rlo.length rlc, .slice rhA rhi.length rhc, .bool rop, .slice slA slo.length slc, .slice shA shi.length shc, .bool sop, .slice lA l.length lc] 47)).trans (ext_alloc (w.alloc (Obj.cells #[.int .i64 7, .slice aA a.length ac, .slice bA b.length bc, .slice rlA rlo.length rlc, .slice rhA rhi.length rhc, .bool rop, .slice slA slo.length slc, .slice shA shi.length shc, .bool sop, .slice lA l.length lc] 47)) (Obj.cells #[.int .i64 0, .bool false, .slice none 0 0, .slice none 0 0] 50))
  have hb2 := heap_alloc_new (w.alloc (Obj.cells #[.int .i64 7, .slice aA a.length ac, .slice bA b.length bc, .slice rlA rlo.length rlc, .slice rhA rhi.length rhc, .bool rop, .slice slA slo.length slc, .slice shA shi.length shc, .bool sop, .slice lA l.length lc] 47)) (Obj.cells #[.int .i64 0, .bool false, .slice none 0 0, .slice none 0 0] 50)
  have hsz : ((w.alloc (Obj.cells #[.int .i64 7, .slice aA a.length ac, .slice bA b.length bc, .slice rlA rlo.length rlc, .slice rhA rhi.length rhc, .bool rop, .slice slA slo.length slc, .slice shA shi.length shc, .bool sop, .slice lA l.length lc] 47)).alloc (Obj.cells #[.int .i64 0, .bool false, .slice none 0 0, .slice none 0 0] 50)).heap.size = w.heap.size + 2 := by simp
  rw [show (w.alloc (Obj.cells #[.int .i64 7, .slice aA a.length ac, .slice bA b.length bc, .slice rlA rlo.length rlc, .slice rhA rhi.length rhc, .bool rop, .slice slA slo.length slc, .slice shA shi.length shc, .bool sop, .slice lA l.length lc] 47)).heap.size = w.heap.size + 1 by simp] at hb2
  have hc := meetq_any (ao := rop) (bo := sop) (srl.ext hE) (srh.ext hE) (ssl.ext hE) (ssh.ext hE)
  try rw [hsz] at hc
  go_enter Try.func35, Try.ntmps35
  go_wp2_with fail
  refine hc.mono ?_
  rintro e w2 ⟨A1, c1, A2, c2, r, hr, rfl, o1, o2, hns, hE2⟩
  clear hc
  replace hb2 := hE2.blk hb2
  obtain ⟨fr, hfr⟩ : ∃ q : Fr, q = ⟨A1, c1, r.lo, A2, c2, r.hi, r.op⟩ := ⟨_, rfl⟩
  have HR := Lib.hid (show [r] = [fr].map rg by rw [hfr]; rfl)
  have HO := Lib.hid (show ∀ f ∈ [fr], Own 5 (w.heap.size + 2) w2 f.lA f.lc f.lo ∧ Own 5 (w.heap.size + 2) w2 f.hA f.hc f.hi from fun f hf => by rw [List.mem_singleton.1 hf, hfr]; exact ⟨o1, o2⟩)
  have HS := Lib.hid (show ∀ f ∈ [fr], smallL f.lo ∧ smallL f.hi from fun f hf => by rw [List.mem_singleton.1 hf, hfr]; exact (by rw [hr]; exact small_meet zrl zrh zsl zsh))
  have HP := Lib.hid (show ([fr].flatMap fv).Pairwise NoShare from by rw [hfr]; exact List.pairwise_cons.2 ⟨fun v hv => by rw [List.mem_singleton.1 hv]; exact hns, List.pairwise_singleton _ _⟩)
  have HRR := Lib.hid hr
  clear hr
  have hEx := ext_alloc w2 (Obj.cells #[.slice A1 r.lo.length c1, .slice A2 r.hi.length c2, .bool r.op] 32)
  replace hb2 := hEx.blk hb2
  have HL := Lib.hid (show (w2.alloc (Obj.cells #[.slice A1 r.lo.length c1, .slice A2 r.hi.length c2, .bool r.op] 32)).heap[w2.heap.size]? = some (.cells ([fr].flatMap c3).toArray 32 (0, 0)) by rw [hfr]; exact heap_alloc_new _ _)
  have HX := Lib.hid hEx
  have HSZ := Lib.hid hE2.size
  clear hEx hfr o1 o2 hns
  go_wp2_with (refine wpList_store_box rfl 50 _ _ rfl (w.heap.size + 1) _ rfl rfl 50 _ hb2 (by kernel_rfl) rfl (by simp [Value.oneCell']) ?_; intro w4 hb hg)
  have hA : AnsO true (w.heap.size + 2) _ _ ⟨0, false, [], [r]⟩ := AnsO.l (n := 1) HL.out (by have := HSZ.out; rw [hsz] at this; exact this) (by simp) (fun f hf => ⟨((HO.out f hf).1).ext HX.out, ((HO.out f hf).2).ext HX.out⟩) HS.out (fun _ => HP.out) rfl HR.out
  have hE2 := hE2.trans HX.out
  exact bodyPost_ret (results_cell_row rfl _ _ _ _ _ _ _ rfl hb Try.underlying50 rfl (by kernel_rfl)) rfl (ask_fin (hE.trans hE2) hA (hp HRR.out) hg)
set_option maxRecDepth 100000 in
set_option maxHeartbeats 2000000 in
theorem asked8 {w : World} {o : Opn} (h : OpR w o) (hk : o.kind = 8) : Calls Try.prog 35 #[o.v] w (AskQ true w o.p) := by
  obtain ⟨kd, aA, ac, a, bA, bc, b, ⟨rlA, rlc, rlo, rhA, rhc, rhi, rop⟩, ⟨slA, slc, slo, shA, shc, shi, sop⟩, lA, lc, l⟩ := o
  obtain ⟨sa, sb, srl, srh, ssl, ssh, sl, hn, hle, hcap, za, zb, zrl, zrh, zsl, zsh, zl⟩ := h
  dsimp only [Opn.v] at hk sa sb srl srh ssl ssh sl hn hle hcap za zb zrl zrh zsl zsh zl ⊢
  subst hk
  have hp : AnsIs (Opn.p ⟨8, aA, ac, a, bA, bc, b, ⟨rlA, rlc, rlo, rhA, rhc, rhi, rop⟩, ⟨slA, slc, slo, shA, shc, shi, sop⟩, lA, lc, l⟩) ⟨0, false, [], [aboveR a]⟩ := rfl
  have hE := (ext_alloc w (Obj.cells #[.int .i64 8, .slice aA a.length ac, .slice bA b.length bc, .slice rlA rlo.length rlc, .slice rhA rhi.length rhc, .bool rop, .slice slA slo.length slc, .slice shA shi.length shc, .bool sop, .slice lA l.length lc] 47)).trans (ext_alloc (w.alloc (Obj.cells #[.int .i64 8, .slice aA a.length ac, .slice bA b.length bc, .slice rlA rlo.length rlc, .slice rhA rhi.length rhc, .bool rop, .slice slA slo.length slc, .slice shA shi.length shc, .bool sop, .slice lA l.length lc] 47)) (Obj.cells #[.int .i64 0, .bool false, .slice none 0 0, .slice none 0 0] 50))
  have hb2 := heap_alloc_new (w.alloc (Obj.cells #[.int .i64 8, .slice aA a.length ac, .slice bA b.length bc, .slice rlA rlo.length rlc, .slice rhA rhi.length rhc, .bool rop, .slice slA slo.length slc, .slice shA shi.length shc, .bool sop, .slice lA l.length lc] 47)) (Obj.cells #[.int .i64 0, .bool false, .slice none 0 0, .slice none 0 0] 50)
  have hsz : ((w.alloc (Obj.cells #[.int .i64 8, .slice aA a.length ac, .slice bA b.length bc, .slice rlA rlo.length rlc, .slice rhA rhi.length rhc, .bool rop, .slice slA slo.length slc, .slice shA shi.length shc, .bool sop, .slice lA l.length lc] 47)).alloc (Obj.cells #[.int .i64 0, .bool false, .slice none 0 0, .slice none 0 0] 50)).heap.size = w.heap.size + 2 := by simp
  rw [show (w.alloc (Obj.cells #[.int .i64 8, .slice aA a.length ac, .slice bA b.length bc, .slice rlA rlo.length rlc, .slice rhA rhi.length rhc, .bool rop, .slice slA slo.length slc, .slice shA shi.length shc, .bool sop, .slice lA l.length lc] 47)).heap.size = w.heap.size + 1 by simp] at hb2
  have hc := above_any (sa.ext hE) rfl
  try rw [hsz] at hc
  go_enter Try.func35, Try.ntmps35
  go_wp2_with fail
  refine hc.mono ?_
  rintro e w2 ⟨A1, c1, A2, c2, rfl, ⟨o1, o2, hns⟩, hE2⟩
  clear hc
  replace hb2 := hE2.blk hb2
  obtain ⟨fr, hfr⟩ : ∃ q : Fr, q = ⟨A1, c1, a, A2, c2, (upB a), (aboveR a).op⟩ := ⟨_, rfl⟩
  have HR := Lib.hid (show [(aboveR a)] = [fr].map rg by rw [hfr]; rfl)
  have HO := Lib.hid (show ∀ f ∈ [fr], Own 5 (w.heap.size + 2) w2 f.lA f.lc f.lo ∧ Own 5 (w.heap.size + 2) w2 f.hA f.hc f.hi from fun f hf => by rw [List.mem_singleton.1 hf, hfr]; exact ⟨o1, o2⟩)
  have HS := Lib.hid (show ∀ f ∈ [fr], smallL f.lo ∧ smallL f.hi from fun f hf => by rw [List.mem_singleton.1 hf, hfr]; exact ⟨za, small_up za⟩)
  have HP := Lib.hid (show ([fr].flatMap fv).Pairwise NoShare from by rw [hfr]; exact List.pairwise_cons.2 ⟨fun v hv => by rw [List.mem_singleton.1 hv]; exact hns, List.pairwise_singleton _ _⟩)
  have hEx := ext_alloc w2 (Obj.cells #[.slice A1 a.length c1, .slice A2 (upB a).length c2, .bool (aboveR a).op] 32)
  replace hb2 := hEx.blk hb2
  have HL := Lib.hid (show (w2.alloc (Obj.cells #[.slice A1 a.length c1, .slice A2 (upB a).length c2, .bool (aboveR a).op] 32)).heap[w2.heap.size]? = some (.cells ([fr].flatMap c3).toArray 32 (0, 0)) by rw [hfr]; exact heap_alloc_new _ _)
  have HX := Lib.hid hEx
  have HSZ := Lib.hid hE2.size
  clear hEx hfr o1 o2 hns
  go_wp2_with (refine wpList_store_box rfl 50 _ _ rfl (w.heap.size + 1) _ rfl rfl 50 _ hb2 (by kernel_rfl) rfl (by simp [Value.oneCell']) ?_; intro w4 hb hg)
  have hA : AnsO true (w.heap.size + 2) _ _ ⟨0, false, [], [(aboveR a)]⟩ := AnsO.l (n := 1) HL.out (by have := HSZ.out; rw [hsz] at this; exact this) (by simp) (fun f hf => ⟨((HO.out f hf).1).ext HX.out, ((HO.out f hf).2).ext HX.out⟩) HS.out (fun _ => HP.out) rfl HR.out
  have hE2 := hE2.trans HX.out
  exact bodyPost_ret (results_cell_row rfl _ _ _ _ _ _ _ rfl hb Try.underlying50 rfl (by kernel_rfl)) rfl (ask_fin (hE.trans hE2) hA (hp) hg)
set_option maxRecDepth 100000 in
set_option maxHeartbeats 2000000 in
theorem asked9 {w : World} {o : Opn} (h : OpR w o) (hk : o.kind = 9) : Calls Try.prog 35 #[o.v] w (AskQ true w o.p) := by
  obtain ⟨kd, aA, ac, a, bA, bc, b, ⟨rlA, rlc, rlo, rhA, rhc, rhi, rop⟩, ⟨slA, slc, slo, shA, shc, shi, sop⟩, lA, lc, l⟩ := o
  obtain ⟨sa, sb, srl, srh, ssl, ssh, sl, hn, hle, hcap, za, zb, zrl, zrh, zsl, zsh, zl⟩ := h
  dsimp only [Opn.v] at hk sa sb srl srh ssl ssh sl hn hle hcap za zb zrl zrh zsl zsh zl ⊢
  subst hk
  have hp : ∀ {r s : Rg}, r = lowB ⟨rlo, rhi, rop⟩ a → s = highB ⟨rlo, rhi, rop⟩ a → AnsIs (Opn.p ⟨9, aA, ac, a, bA, bc, b, ⟨rlA, rlc, rlo, rhA, rhc, rhi, rop⟩, ⟨slA, slc, slo, shA, shc, shi, sop⟩, lA, lc, l⟩) ⟨0, false, [], [r, s]⟩ := fun e e2 => by rw [e, e2]; rfl
  cases rop with
  | false =>
    have hE := (ext_alloc w (Obj.cells #[.int .i64 9, .slice aA a.length ac, .slice bA b.length bc, .slice rlA rlo.length rlc, .slice rhA rhi.length rhc, .bool false, .slice slA slo.length slc, .slice shA shi.length shc, .bool sop, .slice lA l.length lc] 47)).trans (ext_alloc (w.alloc (Obj.cells #[.int .i64 9, .slice aA a.length ac, .slice bA b.length bc, .slice rlA rlo.length rlc, .slice rhA rhi.length rhc, .bool false, .slice slA slo.length slc, .slice shA shi.length shc, .bool sop, .slice lA l.length lc] 47)) (Obj.cells #[.int .i64 0, .bool false, .slice none 0 0, .slice none 0 0] 50))
    have hb2 := heap_alloc_new (w.alloc (Obj.cells #[.int .i64 9, .slice aA a.length ac, .slice bA b.length bc, .slice rlA rlo.length rlc, .slice rhA rhi.length rhc, .bool false, .slice slA slo.length slc, .slice shA shi.length shc, .bool sop, .slice lA l.length lc] 47)) (Obj.cells #[.int .i64 0, .bool false, .slice none 0 0, .slice none 0 0] 50)
    have hsz : ((w.alloc (Obj.cells #[.int .i64 9, .slice aA a.length ac, .slice bA b.length bc, .slice rlA rlo.length rlc, .slice rhA rhi.length rhc, .bool false, .slice slA slo.length slc, .slice shA shi.length shc, .bool sop, .slice lA l.length lc] 47)).alloc (Obj.cells #[.int .i64 0, .bool false, .slice none 0 0, .slice none 0 0] 50)).heap.size = w.heap.size + 2 := by simp
    rw [show (w.alloc (Obj.cells #[.int .i64 9, .slice aA a.length ac, .slice bA b.length bc, .slice rlA rlo.length rlc, .slice rhA rhi.length rhc, .bool false, .slice slA slo.length slc, .slice shA shi.length shc, .bool sop, .slice lA l.length lc] 47)).heap.size = w.heap.size + 1 by simp] at hb2
    have hc := splitq_false (srl.ext hE) (srh.ext hE) (sa.ext hE) rfl
    try rw [hsz] at hc
    go_enter Try.func35, Try.ntmps35
    go_wp2_with fail
    refine hc.mono ?_
    rintro e w2 ⟨A1, c1, A2, c2, A3, c3', A4, c4, r, s, hr, hs, rfl, o1, o2, o3, o4, hns, hE2⟩
    clear hc
    replace hb2 := hE2.blk hb2
    obtain ⟨fr1, hfr1⟩ : ∃ q : Fr, q = ⟨A1, c1, r.lo, A2, c2, r.hi, r.op⟩ := ⟨_, rfl⟩
    obtain ⟨fr2, hfr2⟩ : ∃ q : Fr, q = ⟨A3, c3', s.lo, A4, c4, s.hi, s.op⟩ := ⟨_, rfl⟩
    have HR := Lib.hid (show [r, s] = [fr1, fr2].map rg by rw [hfr1, hfr2]; rfl)
    have HO := Lib.hid (show ∀ f ∈ [fr1, fr2], Own 5 (w.heap.size + 2) w2 f.lA f.lc f.lo ∧ Own 5 (w.heap.size + 2) w2 f.hA f.hc f.hi from fun f hf => by
      rcases List.mem_cons.1 hf with h | h
      · rw [h, hfr1]; exact ⟨o1, o2⟩
      · rw [List.mem_singleton.1 h, hfr2]; exact ⟨o3, o4⟩)
    have HS := Lib.hid (show ∀ f ∈ [fr1, fr2], smallL f.lo ∧ smallL f.hi from fun f hf => by
      rcases List.mem_cons.1 hf with h | h
      · rw [h, hfr1, hr]; exact small_low (r := ⟨rlo, rhi, false⟩) zrl zrh za
      · rw [List.mem_singleton.1 h, hfr2, hs]; exact small_high (r := ⟨rlo, rhi, false⟩) zrl zrh za)
    have HP := Lib.hid (show ([fr1, fr2].flatMap fv).Pairwise NoShare from by rw [hfr1, hfr2]; exact hns)
    have HPQ := Lib.hid (hp hr hs)
    have HSZ := Lib.hid hE2.size
    have HF1 := Lib.hid hfr1
    have HF2 := Lib.hid hfr2
    clear hr hs hfr1 hfr2 o1 o2 o3 o4 hns hp
    go_wp2_with (first | (refine wpList_store_box rfl 50 _ _ rfl (w.heap.size + 1) _ rfl rfl 50 _ hb9 (by kernel_rfl) rfl (by simp [Value.oneCell']) ?_; intro w4 hb hg) | (refine wpList_store_box rfl 32 _ _ rfl (w2.heap.size + 1) _ rfl rfl 32 _ hb6 (by kernel_rfl) rfl (by simp [Value.oneCell']) ?_; intro w6 hb7 hg6; have hb8 := blk_other hb5 hg6 (by omega); have d0 := cell_of_row w6 w2.heap.size 0 _ _ _ hb8; have d1 := cell_of_row w6 w2.heap.size 1 _ _ _ hb8; have d2 := cell_of_row w6 w2.heap.size 2 _ _ _ hb8; have f0 := cell_of_row w6 (w2.heap.size + 1) 0 _ _ _ hb7; have f1 := cell_of_row w6 (w2.heap.size + 1) 1 _ _ _ hb7; have f2 := cell_of_row w6 (w2.heap.size + 1) 2 _ _ _ hb7; simp at d0 d1 d2 f0 f1 f2; have hEs := ext_only (ext_only ((ext_alloc w2 (Obj.cells #[.slice none 0 0, .slice none 0 0, .bool false] 32)).trans (ext_alloc _ (Obj.cells #[.slice none 0 0, .slice none 0 0, .bool false] 32))) hg5 (Nat.le_refl _)) hg6 (Nat.le_succ _); have hb9 := (ext_alloc w6 (Obj.cells #[.slice A1 r.lo.length c1, .slice A2 r.hi.length c2, .bool r.op, .slice A3 s.lo.length c3', .slice A4 s.hi.length c4, .bool s.op] 32)).blk (hEs.blk hb2)) | (refine wpList_store_box rfl 32 _ _ rfl w2.heap.size _ rfl rfl 32 _ (heap_alloc2_old _ _ _) (by kernel_rfl) rfl (by simp [Value.oneCell']) ?_; intro w5 hb5 hg5; have hb6 := blk_other (heap_alloc2_new w2 (Obj.cells #[.slice none 0 0, .slice none 0 0, .bool false] 32) (Obj.cells #[.slice none 0 0, .slice none 0 0, .bool false] 32)) hg5 (by omega)))
    have hEx := ext_alloc w6 (Obj.cells #[.slice A1 r.lo.length c1, .slice A2 r.hi.length c2, .bool r.op, .slice A3 s.lo.length c3', .slice A4 s.hi.length c4, .bool s.op] 32)
    have HL := Lib.hid (show (w6.alloc (Obj.cells #[.slice A1 r.lo.length c1, .slice A2 r.hi.length c2, .bool r.op, .slice A3 s.lo.length c3', .slice A4 s.hi.length c4, .bool s.op] 32)).heap[w6.heap.size]? = some (.cells ([fr1, fr2].flatMap c3).toArray 32 (0, 0)) by rw [HF1.out, HF2.out]; exact heap_alloc_new _ _)
    have HX := Lib.hid (hEs.trans hEx)
    have HS6 := Lib.hid hEs.size
    have hA : AnsO true (w.heap.size + 2) _ _ ⟨0, false, [], [r, s]⟩ := AnsO.l (n := 2) HL.out (by have := HSZ.out; rw [hsz] at this; exact Nat.le_trans this HS6.out) (by simp) (fun f hf => ⟨((HO.out f hf).1).ext HX.out, ((HO.out f hf).2).ext HX.out⟩) HS.out (fun _ => HP.out) rfl HR.out
    have hE2 := hE2.trans HX.out
    exact bodyPost_ret (results_cell_row rfl _ _ _ _ _ _ _ rfl hb Try.underlying50 rfl (by kernel_rfl)) rfl (ask_fin (hE.trans hE2) hA HPQ.out hg)
  | true =>
    have hE := (ext_alloc w (Obj.cells #[.int .i64 9, .slice aA a.length ac, .slice bA b.length bc, .slice rlA rlo.length rlc, .slice rhA rhi.length rhc, .bool true, .slice slA slo.length slc, .slice shA shi.length shc, .bool sop, .slice lA l.length lc] 47)).trans (ext_alloc (w.alloc (Obj.cells #[.int .i64 9, .slice aA a.length ac, .slice bA b.length bc, .slice rlA rlo.length rlc, .slice rhA rhi.length rhc, .bool true, .slice slA slo.length slc, .slice shA shi.length shc, .bool sop, .slice lA l.length lc] 47)) (Obj.cells #[.int .i64 0, .bool false, .slice none 0 0, .slice none 0 0] 50))
    have hb2 := heap_alloc_new (w.alloc (Obj.cells #[.int .i64 9, .slice aA a.length ac, .slice bA b.length bc, .slice rlA rlo.length rlc, .slice rhA rhi.length rhc, .bool true, .slice slA slo.length slc, .slice shA shi.length shc, .bool sop, .slice lA l.length lc] 47)) (Obj.cells #[.int .i64 0, .bool false, .slice none 0 0, .slice none 0 0] 50)
    have hsz : ((w.alloc (Obj.cells #[.int .i64 9, .slice aA a.length ac, .slice bA b.length bc, .slice rlA rlo.length rlc, .slice rhA rhi.length rhc, .bool true, .slice slA slo.length slc, .slice shA shi.length shc, .bool sop, .slice lA l.length lc] 47)).alloc (Obj.cells #[.int .i64 0, .bool false, .slice none 0 0, .slice none 0 0] 50)).heap.size = w.heap.size + 2 := by simp
    rw [show (w.alloc (Obj.cells #[.int .i64 9, .slice aA a.length ac, .slice bA b.length bc, .slice rlA rlo.length rlc, .slice rhA rhi.length rhc, .bool true, .slice slA slo.length slc, .slice shA shi.length shc, .bool sop, .slice lA l.length lc] 47)).heap.size = w.heap.size + 1 by simp] at hb2
    have hc := splitq_true (srl.ext hE) (srh.ext hE) (sa.ext hE) rfl
    try rw [hsz] at hc
    go_enter Try.func35, Try.ntmps35
    go_wp2_with fail
    refine hc.mono ?_
    rintro e w2 ⟨A1, c1, A2, c2, A3, c3', A4, c4, r, s, hr, hs, rfl, o1, o2, o3, o4, hns, hE2⟩
    clear hc
    replace hb2 := hE2.blk hb2
    obtain ⟨fr1, hfr1⟩ : ∃ q : Fr, q = ⟨A1, c1, r.lo, A2, c2, r.hi, r.op⟩ := ⟨_, rfl⟩
    obtain ⟨fr2, hfr2⟩ : ∃ q : Fr, q = ⟨A3, c3', s.lo, A4, c4, s.hi, s.op⟩ := ⟨_, rfl⟩
    have HR := Lib.hid (show [r, s] = [fr1, fr2].map rg by rw [hfr1, hfr2]; rfl)
    have HO := Lib.hid (show ∀ f ∈ [fr1, fr2], Own 5 (w.heap.size + 2) w2 f.lA f.lc f.lo ∧ Own 5 (w.heap.size + 2) w2 f.hA f.hc f.hi from fun f hf => by
      rcases List.mem_cons.1 hf with h | h
      · rw [h, hfr1]; exact ⟨o1, o2⟩
      · rw [List.mem_singleton.1 h, hfr2]; exact ⟨o3, o4⟩)
    have HS := Lib.hid (show ∀ f ∈ [fr1, fr2], smallL f.lo ∧ smallL f.hi from fun f hf => by
      rcases List.mem_cons.1 hf with h | h
      · rw [h, hfr1, hr]; exact small_low (r := ⟨rlo, rhi, true⟩) zrl zrh za
      · rw [List.mem_singleton.1 h, hfr2, hs]; exact small_high (r := ⟨rlo, rhi, true⟩) zrl zrh za)
    have HP := Lib.hid (show ([fr1, fr2].flatMap fv).Pairwise NoShare from by rw [hfr1, hfr2]; exact hns)
    have HPQ := Lib.hid (hp hr hs)
    have HSZ := Lib.hid hE2.size
    have HF1 := Lib.hid hfr1
    have HF2 := Lib.hid hfr2
    clear hr hs hfr1 hfr2 o1 o2 o3 o4 hns hp
    go_wp2_with (first | (refine wpList_store_box rfl 50 _ _ rfl (w.heap.size + 1) _ rfl rfl 50 _ hb9 (by kernel_rfl) rfl (by simp [Value.oneCell']) ?_; intro w4 hb hg) | (refine wpList_store_box rfl 32 _ _ rfl (w2.heap.size + 1) _ rfl rfl 32 _ hb6 (by kernel_rfl) rfl (by simp [Value.oneCell']) ?_; intro w6 hb7 hg6; have hb8 := blk_other hb5 hg6 (by omega); have d0 := cell_of_row w6 w2.heap.size 0 _ _ _ hb8; have d1 := cell_of_row w6 w2.heap.size 1 _ _ _ hb8; have d2 := cell_of_row w6 w2.heap.size 2 _ _ _ hb8; have f0 := cell_of_row w6 (w2.heap.size + 1) 0 _ _ _ hb7; have f1 := cell_of_row w6 (w2.heap.size + 1) 1 _ _ _ hb7; have f2 := cell_of_row w6 (w2.heap.size + 1) 2 _ _ _ hb7; simp at d0 d1 d2 f0 f1 f2; have hEs := ext_only (ext_only ((ext_alloc w2 (Obj.cells #[.slice none 0 0, .slice none 0 0, .bool false] 32)).trans (ext_alloc _ (Obj.cells #[.slice none 0 0, .slice none 0 0, .bool false] 32))) hg5 (Nat.le_refl _)) hg6 (Nat.le_succ _); have hb9 := (ext_alloc w6 (Obj.cells #[.slice A1 r.lo.length c1, .slice A2 r.hi.length c2, .bool r.op, .slice A3 s.lo.length c3', .slice A4 s.hi.length c4, .bool s.op] 32)).blk (hEs.blk hb2)) | (refine wpList_store_box rfl 32 _ _ rfl w2.heap.size _ rfl rfl 32 _ (heap_alloc2_old _ _ _) (by kernel_rfl) rfl (by simp [Value.oneCell']) ?_; intro w5 hb5 hg5; have hb6 := blk_other (heap_alloc2_new w2 (Obj.cells #[.slice none 0 0, .slice none 0 0, .bool false] 32) (Obj.cells #[.slice none 0 0, .slice none 0 0, .bool false] 32)) hg5 (by omega)))
    have hEx := ext_alloc w6 (Obj.cells #[.slice A1 r.lo.length c1, .slice A2 r.hi.length c2, .bool r.op, .slice A3 s.lo.length c3', .slice A4 s.hi.length c4, .bool s.op] 32)
    have HL := Lib.hid (show (w6.alloc (Obj.cells #[.slice A1 r.lo.length c1, .slice A2 r.hi.length c2, .bool r.op, .slice A3 s.lo.length c3', .slice A4 s.hi.length c4, .bool s.op] 32)).heap[w6.heap.size]? = some (.cells ([fr1, fr2].flatMap c3).toArray 32 (0, 0)) by rw [HF1.out, HF2.out]; exact heap_alloc_new _ _)
    have HX := Lib.hid (hEs.trans hEx)
    have HS6 := Lib.hid hEs.size
    have hA : AnsO true (w.heap.size + 2) _ _ ⟨0, false, [], [r, s]⟩ := AnsO.l (n := 2) HL.out (by have := HSZ.out; rw [hsz] at this; exact Nat.le_trans this HS6.out) (by simp) (fun f hf => ⟨((HO.out f hf).1).ext HX.out, ((HO.out f hf).2).ext HX.out⟩) HS.out (fun _ => HP.out) rfl HR.out
    have hE2 := hE2.trans HX.out
    exact bodyPost_ret (results_cell_row rfl _ _ _ _ _ _ _ rfl hb Try.underlying50 rfl (by kernel_rfl)) rfl (ask_fin (hE.trans hE2) hA HPQ.out hg)
set_option maxRecDepth 100000 in
set_option maxHeartbeats 2000000 in
theorem asked10 {w : World} {o : Opn} (h : OpR w o) (hk : o.kind < 0 ∨ 10 ≤ o.kind) : Calls Try.prog 35 #[o.v] w (AskQ true w o.p) := by
  obtain ⟨kd, aA, ac, a, bA, bc, b, ⟨rlA, rlc, rlo, rhA, rhc, rhi, rop⟩, ⟨slA, slc, slo, shA, shc, shi, sop⟩, lA, lc, l⟩ := o
  obtain ⟨sa, sb, srl, srh, ssl, ssh, sl, hn, hle, hcap, za, zb, zrl, zrh, zsl, zsh, zl⟩ := h
  dsimp only [Opn.v] at hk sa sb srl srh ssl ssh sl hn hle hcap za zb zrl zrh zsl zsh zl ⊢
  have hp : ∀ cs, CovOf (l.map rg) cs → AnsIs (Opn.p ⟨kd, aA, ac, a, bA, bc, b, ⟨rlA, rlc, rlo, rhA, rhc, rhi, rop⟩, ⟨slA, slc, slo, shA, shc, shi, sop⟩, lA, lc, l⟩) ⟨0, false, [], cs⟩ := fun cs e => by
    unfold AnsIs
    repeat rw [if_neg (show ¬ _ from by dsimp only; omega)]
    exact ⟨rfl, rfl, rfl, e⟩
  have b0 : (kd == 0) = false := by simp; omega
  have b1 : (kd == 1) = false := by simp; omega
  have b2 : (kd == 2) = false := by simp; omega
  have b3 : (kd == 3) = false := by simp; omega
  have b4 : (kd == 4) = false := by simp; omega
  have b5 : (kd == 5) = false := by simp; omega
  have b6 : (kd == 6) = false := by simp; omega
  have b7 : (kd == 7) = false := by simp; omega
  have b8 : (kd == 8) = false := by simp; omega
  have b9 : (kd == 9) = false := by simp; omega
  have hE := (ext_alloc w (Obj.cells #[.int .i64 kd, .slice aA a.length ac, .slice bA b.length bc, .slice rlA rlo.length rlc, .slice rhA rhi.length rhc, .bool rop, .slice slA slo.length slc, .slice shA shi.length shc, .bool sop, .slice lA l.length lc] 47)).trans (ext_alloc (w.alloc (Obj.cells #[.int .i64 kd, .slice aA a.length ac, .slice bA b.length bc, .slice rlA rlo.length rlc, .slice rhA rhi.length rhc, .bool rop, .slice slA slo.length slc, .slice shA shi.length shc, .bool sop, .slice lA l.length lc] 47)) (Obj.cells #[.int .i64 0, .bool false, .slice none 0 0, .slice none 0 0] 50))
  have hb2 := heap_alloc_new (w.alloc (Obj.cells #[.int .i64 kd, .slice aA a.length ac, .slice bA b.length bc, .slice rlA rlo.length rlc, .slice rhA rhi.length rhc, .bool rop, .slice slA slo.length slc, .slice shA shi.length shc, .bool sop, .slice lA l.length lc] 47)) (Obj.cells #[.int .i64 0, .bool false, .slice none 0 0, .slice none 0 0] 50)
  have hsz : ((w.alloc (Obj.cells #[.int .i64 kd, .slice aA a.length ac, .slice bA b.length bc, .slice rlA rlo.length rlc, .slice rhA rhi.length rhc, .bool rop, .slice slA slo.length slc, .slice shA shi.length shc, .bool sop, .slice lA l.length lc] 47)).alloc (Obj.cells #[.int .i64 0, .bool false, .slice none 0 0, .slice none 0 0] 50)).heap.size = w.heap.size + 2 := by simp
  rw [show (w.alloc (Obj.cells #[.int .i64 kd, .slice aA a.length ac, .slice bA b.length bc, .slice rlA rlo.length rlc, .slice rhA rhi.length rhc, .bool rop, .slice slA slo.length slc, .slice shA shi.length shc, .bool sop, .slice lA l.length lc] 47)).heap.size = w.heap.size + 1 by simp] at hb2
  have hc := cover_any (cap := lc) (sl.ext hE) rfl (by omega)
  try rw [hsz] at hc
  go_enter Try.func35, Try.ntmps35
  go_wp2_with fail
  refine hc.mono ?_
  rintro e w2 ⟨v, os, rfl, ho, hO, hC, hl, hE2⟩
  clear hc
  replace hb2 := hE2.blk hb2
  obtain ⟨Av, Cv, rfl⟩ := slice_of_own ho
  have hA : AnsO true (w.heap.size + 2) w2 _ ⟨0, false, [], os.map rg⟩ := AnsO.cov ho hO (by omega)
  have HA := Lib.hid hA
  have HC := Lib.hid hC
  clear hA ho hO hC
  go_wp2_with (refine wpList_store_box rfl 50 _ _ rfl (w.heap.size + 1) _ rfl rfl 50 _ hb2 (by kernel_rfl) rfl (by simp [Value.oneCell']) ?_; intro w4 hb hg)
  have hA := HA.out
  exact bodyPost_ret (results_cell_row rfl _ _ _ _ _ _ _ rfl hb Try.underlying50 rfl (by kernel_rfl)) rfl (ask_fin (hE.trans hE2) hA (hp _ HC.out) hg)
theorem asked_any {w : World} {o : Opn} (h : OpR w o) : Calls Try.prog 35 #[o.v] w (AskQ true w o.p) := by
  by_cases h0 : o.kind = 0
  · exact asked0 h h0
  by_cases h1 : o.kind = 1
  · exact asked1 h h1
  by_cases h2 : o.kind = 2
  · exact asked2 h h2
  by_cases h3 : o.kind = 3
  · exact asked3 h h3
  by_cases h4 : o.kind = 4
  · exact asked4 h h4
  by_cases h5 : o.kind = 5
  · exact asked5 h h5
  by_cases h6 : o.kind = 6
  · exact asked6 h h6
  by_cases h7 : o.kind = 7
  · exact asked7 h h7
  by_cases h8 : o.kind = 8
  · exact asked8 h h8
  by_cases h9 : o.kind = 9
  · exact asked9 h h9
  exact asked10 h (by omega)
end Go.Proofs.Ytijlaknfagpglaa
