/- Layer 10: act: what is done, with what undoes it. No condition but the sizes. -/
import Derived.Test.YtaalhicdeibodaaPc
namespace Go.Proofs.Ytaalhicdeibodaa
open Go.RowKit Go.Proofs Go.Shelf
set_option linter.unusedVariables false
attribute [local go_sem] Oper.semAt_some
theorem infoA : (Try.prog.info? 81).map (fun i => (i.zero, i.size, i.bytes)) = some (some (.agg #[.nilFunc]), 1, 8) := by kernel_rfl
section
variable {B : Nat} {w : World} {m : Pm} {refs : Int} {cnt : List Int} {last : List Bool} {L : List Rn} {ta : List Int} {az : List (Int × Int)} {fl : Int}
/-- The row of acts has grown behind its end. -/
theorem PoolM.turnA {w' : World} (h : PoolM B w m refs cnt last L ta az fl) (hx : Exc (fun q _ => blkOf m.aA = some q) w w')
    (ha : w'.ownsRow B 81 1 (.slice m.aA az.length m.ac) az.length (m.bs.map actV)) : PoolM B w' m refs cnt last L ta az fl := by
  have hob : ∀ q, blkOf m.aA = some q → (Value.slice m.aA az.length m.ac).ownBlock = some q := fun q hq => by rw [ownBlock_eq]; exact hq
  refine ⟨hx.blk h.hd (fun e => own_not h.ac h.hd (by decide) (hob _ e)), own_out h.cn hx ?_, own_out h.la hx ?_, ⟨hx.blk h.fr.hd (fun e => own_not h.ac h.fr.hd (by decide) (hob _ e)), own_out h.fr.row hx ?_, h.fr.wf, h.fr.bd⟩, ha, fun i a b ha hb => ?_, h.sep, h.geP, h.geF, h.geB, h.tl⟩
  · rintro b o hb e
    obtain ⟨_, cs, hg⟩ := own_blk h.cn hb
    exact own_not h.ac hg (by decide) (hob _ e)
  · rintro b o hb e
    obtain ⟨_, cs, hg⟩ := own_blk h.la hb
    exact own_not h.ac hg (by decide) (hob _ e)
  · rintro b o hb e
    obtain ⟨_, cs, hg⟩ := own_blk h.fr.row hb
    exact own_not h.ac hg (by decide) (hob _ e)
  · have k := h.cl i a b ha hb
    exact ⟨hx.blk k.c1 (fun e => own_not h.ac k.c1 (by decide) (hob _ e)), hx.blk k.c2 (fun e => own_not h.ac k.c2 (by decide) (hob _ e)), hx.blk k.c3 (fun e => own_not h.ac k.c3 (by decide) (hob _ e))⟩
theorem poolC_acts (m : Pm) (refs : Int) (n1 n2 : Nat) (ta : List Int) (na : Nat) (fl : Int) (A : Option Addr) (n c : Nat) (bs : List (Nat × Nat × Nat)) :
    (poolC m refs n1 n2 ta na fl).setIfInBounds 9 (.slice A n c) = poolC { m with aA := A, ac := c, bs := bs } refs n1 n2 ta n fl := rfl
/-- The pool has another row of acts. -/
theorem PoolM.setActs {A : Option Addr} {c : Nat} {az' : List (Int × Int)} {bs' : List (Nat × Nat × Nat)} (h : PoolM B w m refs cnt last L ta az fl)
    (hr : w.ownsRow B 81 1 (.slice A az'.length c) az'.length (bs'.map actV))
    (hc : ∀ (i : Nat) (a : Int × Int) (b : Nat × Nat × Nat), az'[i]? = some a → bs'[i]? = some b → ActAt w m.p a b)
    (hs : ∀ b ∈ bs', blkOf m.cA ≠ some b.2.1 ∧ blkOf m.cA ≠ some b.2.2) (hb : ∀ b ∈ bs', B ≤ b.1 ∧ B ≤ b.2.1 ∧ B ≤ b.2.2) :
    PoolM B (w.setCell ⟨m.p, 9, none⟩ (.slice A az'.length c)) { m with aA := A, ac := c, bs := bs' } refs cnt last L ta az' fl := by
  have hx := setCell_excp w m.p 9 (.slice A az'.length c)
  refine ⟨?_, own_out h.cn hx ?_, own_out h.la hx ?_, ⟨hx.blk h.fr.hd (blk_ne h.fr.hd h.hd (by decide)), own_out h.fr.row hx ?_, h.fr.wf, h.fr.bd⟩, own_out hr hx ?_, fun i a b ha hb => ?_, hs, h.geP, h.geF, hb, h.tl⟩
  · rw [heap_setCell_same w m.p 9 _ _ _ h.hd, poolC_acts _ _ _ _ _ _ _ _ _ _ bs']
  · rintro b o hb rfl
    exact own_not h.cn h.hd (by decide) hb
  · rintro b o hb rfl
    exact own_not h.la h.hd (by decide) hb
  · rintro b o hb rfl
    exact own_not h.fr.row h.hd (by decide) hb
  · rintro b o hb rfl
    exact own_not hr h.hd (by decide) hb
  · have k := hc i a b ha hb
    exact ⟨hx.blk k.c1 (blk_ne k.c1 h.hd (by decide)), hx.blk k.c2 (blk_ne k.c2 h.hd (by decide)), hx.blk k.c3 (blk_ne k.c3 h.hd (by decide))⟩
theorem PoolM.appended {w' : World} {v' : Value} {b : Nat × Nat × Nat} (h : PoolM B w m refs cnt last L ta az fl) (ho : w'.ownsRow B 81 1 v' (az.length + 1) (m.bs.map actV ++ [actV b]))
    (hc : (∃ A c, Value.slice m.aA az.length m.ac = .slice A az.length c ∧ v' = .slice A (az.length + 1) c ∧ w.grownBy w' (Value.slice m.aA az.length m.ac).ownBlock) ∨ (w.grownBy w' none ∧ ∀ g, v'.ownBlock = some g → w.heap.size ≤ g)) :
    PoolM B w' m refs cnt last L ta az fl ∧ Exc (fun q _ => blkOf m.aA = some q) w w' ∧ ∃ A c, v' = .slice A (az.length + 1) c ∧ ∀ q, blkOf A = some q → blkOf m.aA = some q ∨ w.heap.size ≤ q := by
  obtain ⟨A, c, rfl⟩ := slice_of_own ho
  rcases hc with ⟨A2, c2, e1, e2, hg⟩ | ⟨hg, hn⟩
  · injection e1 with e3 _ e4
    injection e2 with e5 _ e6
    subst e3 e4 e5 e6
    have hx : Exc (fun q _ => blkOf m.aA = some q) w w' := Exc.of_grown hg (fun q o e _ => by rw [ownBlock_eq] at e; exact e)
    have hp := own_prefix ho
    have hl : (m.bs.map actV).length = az.length := by rw [List.length_map, h.bl]
    rw [Nat.mul_one, List.take_append_of_le_length (by omega), List.take_of_length_le (by omega)] at hp
    exact ⟨h.turnA hx hp, hx, _, _, rfl, fun q hq => .inl hq⟩
  · have hx : Ext w w' := by
      exact ⟨hg.os, hg.tape, hg.output, hg.size, fun k hk => hg.block k hk (by simp)⟩
    exact ⟨h.ext hx, Exc.of_ext hx, _, _, rfl, fun q hq => .inr (hn q (by rw [ownBlock_eq]; exact hq))⟩
end
theorem calls_cutP {P : Program} {f : FuncId} {args : Array Value} {w : World} {Q : Ending → World → Prop} (F : World → Prop) (hF : F w) (h : ∀ W, F W → Calls P f args W Q) : Calls P f args w Q := h w hF
/-- The elder blocks that an act turns behind its turn. -/
def DA (N0 : Nat) (m : Pm) : Nat → Obj → Prop := fun q _ => q < N0 ∧ (q = m.p ∨ blkOf m.aA = some q)
def LitA (N0 : Nat) (b : Nat × Nat × Nat) (z : Value) (V : World) : Prop := ∃ g, z = .slice (some ⟨g, 0, none⟩) 1 1 ∧ V.heap[g]? = some (.cells #[actV b] 81 (0, 0)) ∧ N0 ≤ g
theorem LitA.lasts (N0 : Nat) (m : Pm) (b : Nat × Nat × Nat) (z : Value) : Lasts (Exc (DA N0 m)) (LitA N0 b z) := fun w' w2 ⟨g, h1, h2, h3⟩ he => ⟨g, h1, he.blk h2 (fun e => by have := e.1; omega), h3⟩
def AppA (B : Nat) (m : Pm) (refs : Int) (cnt : List Int) (last : List Bool) (L : List Rn) (ta : List Int) (az : List (Int × Int)) (fl : Int) (N0 : Nat) (a : Int × Int) (b : Nat × Nat × Nat) (z : Value) (V : World) : Prop :=
  ∃ A c, z = .slice A (az.length + 1) c ∧ PoolM B V m refs cnt last L ta az fl ∧ V.ownsRow B 81 1 (.slice A (az.length + 1) c) (az.length + 1) (m.bs.map actV ++ [actV b]) ∧ ActAt V m.p a b ∧ (∀ q, blkOf A = some q → blkOf m.aA = some q ∨ N0 ≤ q)
theorem AppA.lasts (B : Nat) (m : Pm) (refs : Int) (cnt : List Int) (last : List Bool) (L : List Rn) (ta : List Int) (az : List (Int × Int)) (fl : Int) (N0 : Nat) (a : Int × Int) (b : Nat × Nat × Nat) (z : Value) : Lasts Ext (AppA B m refs cnt last L ta az fl N0 a b z) :=
  fun w' w2 ⟨A, c, h1, h2, h3, h4, h5⟩ he => ⟨A, c, h1, h2.ext he, own_ext h3 he, ⟨he.blk h4.c1, he.blk h4.c2, he.blk h4.c3⟩, h5⟩
def FinA (B : Nat) (m : Pm) (refs : Int) (cnt : List Int) (last : List Bool) (L : List Rn) (ta : List Int) (az : List (Int × Int)) (fl : Int) (N0 : Nat) (a : Int × Int) (b : Nat × Nat × Nat) (V : World) : Prop :=
  ∃ A c, PoolM B V { m with aA := A, ac := c, bs := m.bs ++ [b] } refs cnt last L ta (az ++ [a]) fl ∧ (∀ q, blkOf A = some q → blkOf m.aA = some q ∨ N0 ≤ q)
theorem FinA.lasts (B : Nat) (m : Pm) (refs : Int) (cnt : List Int) (last : List Bool) (L : List Rn) (ta : List Int) (az : List (Int × Int)) (fl : Int) (N0 : Nat) (a : Int × Int) (b : Nat × Nat × Nat) : Lasts Ext (FinA B m refs cnt last L ta az fl N0 a b) :=
  fun w' w2 ⟨A, c, h1, h2⟩ he => ⟨A, c, h1.ext he, h2⟩
theorem alloc3_atp (w : World) (a b c : Obj) : (((w.alloc a).alloc b).alloc c).heap.size = w.heap.size + 3 ∧ (((w.alloc a).alloc b).alloc c).heap[w.heap.size]? = some a ∧ (((w.alloc a).alloc b).alloc c).heap[w.heap.size + 1]? = some b ∧ (((w.alloc a).alloc b).alloc c).heap[w.heap.size + 1 + 1]? = some c := by
  have e0 : (w.alloc a).heap.size = w.heap.size + 1 := by simp
  have e1 : ((w.alloc a).alloc b).heap.size = w.heap.size + 2 := by simp
  refine ⟨by simp, ?_, ?_, ?_⟩
  · exact (ext_alloc _ _).blk ((ext_alloc _ _).blk (heap_alloc_new w a))
  · have := heap_alloc_new (w.alloc a) b
    rw [e0] at this
    exact (ext_alloc _ _).blk this
  · have := heap_alloc_new ((w.alloc a).alloc b) c
    rw [e1] at this
    exact this
theorem one_act (b : Nat × Nat × Nat) : ∀ u ∈ [actV b], u.oneCell' = true := by
  intro u hu
  rcases List.mem_cons.1 hu with rfl | hu
  · rfl
  · cases hu
set_option maxRecDepth 100000 in
set_option maxHeartbeats 2000000 in
theorem act_any {B : Nat} {w : World} {m : Pm} {refs : Int} {cnt : List Int} {last : List Bool} {az : List (Int × Int)} {fl : Int} (h : PoolC B w m refs cnt last az fl) (hl : last.length = cnt.length) (h6 : cnt.length ≤ 65536) {n b : Int} (h1 : 1 ≤ n) (h2 : n ≤ cnt.length) (hb : -1 ≤ b ∧ b ≤ 1)
    (hc : 0 ≤ cnt.getD (n - 1).toNat 0 ∧ cnt.getD (n - 1).toNat 0 ≤ 65536) (hBw : B ≤ w.heap.size) (haz : az.length ≤ 1000000) :
    Calls Try.prog 39 #[.pointer (some ⟨m.p, 0, none⟩), .int .i64 n, .int .i64 b] w fun e w' => ∃ m', e = .returned (.tuple #[]) ∧
      PoolC B w' m' refs (bump cnt n b) last (az ++ [(n, b)]) fl ∧ Moved m m' w w' := by
  have hmf : ∀ (fn : Fn) (first cap : Array Value) (w : World), (Instr.makeFunc fn first cap).run Try.prog w = .ok (.func fn first cap) w := fun _ _ _ _ => rfl
  obtain ⟨iA, hiA, hzA, hsA, hbA⟩ : ∃ i, Try.prog.info? 81 = some i ∧ i.zero = some (.agg #[.nilFunc]) ∧ i.size = 1 ∧ i.bytes = 8 := by
    have hh := infoA
    obtain ⟨i, hi, he⟩ := Option.map_eq_some_iff.1 hh
    injection he with e1 e2
    injection e2 with e2 e3
    exact ⟨i, hi, e1, e2, e3⟩
  go_enter Try.func39, Try.ntmps39
  go_wp2_with fail
  refine calls_cutP (fun W => Ext w W ∧ W.heap.size = w.heap.size + 3 ∧ W.heap[w.heap.size]? = some (.cells #[.pointer (some ⟨m.p, 0, none⟩)] 27 (0, 0)) ∧ W.heap[w.heap.size + 1]? = some (.cells #[.int .i64 n] 3 (0, 0)) ∧ W.heap[w.heap.size + 1 + 1]? = some (.cells #[.int .i64 b] 3 (0, 0)))
    ⟨(ext_alloc _ _).trans ((ext_alloc _ _).trans (ext_alloc _ _)), alloc3_atp _ _ _ _⟩ ?_
  rintro w1 ⟨hE1, hz1, k1, k2, k3⟩
  have hlt := fun q (hq : m.foot q) => (h.foot_lt hq).2
  have hge := fun q (hq : m.foot q) => (h.foot_lt hq).1
  refine (turnC_any (h.ext hE1) hl h6 h1 h2 hb hc (by omega)).mono ?_
  rintro e w2 ⟨A', c', rfl, ⟨L, hM, hF⟩, hmv⟩
  have hx2 := hmv.x
  have j1 := hx2.blk k1 (fun e => by have := hlt _ e; omega)
  have j2 := hx2.blk k2 (fun e => by have := hlt _ e; omega)
  have j3 := hx2.blk k3 (fun e => by have := hlt _ e; omega)
  have hz2 := hx2.size
  have hmv2 := (Moved.of_ext (m := m) hE1).trans hmv
  clear k1 k2 k3 hmv hx2
  obtain ⟨m1, hm1⟩ : ∃ m1 : Pm, { m with fA := A', fc := c' } = m1 := ⟨_, rfl⟩
  have hp1 : m1.p = m.p := by rw [← hm1]
  have hC1 : m1.cA = m.cA := by rw [← hm1]
  rw [hm1] at hM hmv2
  clear hm1
  have hlt2 := fun q (hq : m1.foot q) => (hM.foot_lt hq).2
  obtain ⟨cn', hcn'⟩ : ∃ l, bump cnt n b = l := ⟨_, rfl⟩
  rw [hcn'] at hM hF
  obtain ⟨ta, hta⟩ : ∃ l, taL (stsOf cn' last) = l := ⟨_, rfl⟩
  rw [hta] at hM
  have HCN := Lib.hid hcn'
  have HTA := Lib.hid hta
  clear hcn' hta
  obtain ⟨K, hK⟩ : ∃ K : Nat × Nat × Nat, K = (w.heap.size, w.heap.size + 1, w.heap.size + 1 + 1) := ⟨_, rfl⟩
  have hact : ActAt w2 m1.p (n, b) K := by rw [hK, hp1]; exact ⟨j1, j2, j3⟩
  have hKv : actV K = .func (.func 65) #[] #[.pointer (some ⟨w.heap.size, 0, none⟩), .pointer (some ⟨w.heap.size + 1, 0, none⟩), .pointer (some ⟨w.heap.size + 1 + 1, 0, none⟩)] := by rw [hK]
  have hactk : ∀ V, Exc (DA w2.heap.size m1) w2 V → ActAt V m1.p (n, b) K := fun V hV => by
    refine ⟨hV.blk hact.c1 fun e => ?_, hV.blk hact.c2 fun e => ?_, hV.blk hact.c3 fun e => ?_⟩
    · rcases e.2 with e | e
      · exact blk_ne hact.c1 hM.hd (by decide) e
      · exact own_not hM.ac hact.c1 (by decide) (by rw [ownBlock_eq]; exact e)
    · rcases e.2 with e | e
      · exact blk_ne hact.c2 hM.hd (by decide) e
      · exact own_not hM.ac hact.c2 (by decide) (by rw [ownBlock_eq]; exact e)
    · rcases e.2 with e | e
      · exact blk_ne hact.c3 hM.hd (by decide) e
      · exact own_not hM.ac hact.c3 (by decide) (by rw [ownBlock_eq]; exact e)
  have hgK : B ≤ K.1 ∧ B ≤ K.2.1 ∧ B ≤ K.2.2 := by rw [hK]; exact ⟨hBw, by show B ≤ w.heap.size + 1; omega, by show B ≤ w.heap.size + 1 + 1; omega⟩
  have hsK : blkOf m1.cA ≠ some K.2.1 ∧ blkOf m1.cA ≠ some K.2.2 := by
    rw [hK, hC1]
    refine ⟨fun e => ?_, fun e => ?_⟩
    · have := hlt _ (.inr (.inl e)); simp only at this; omega
    · have := hlt _ (.inr (.inl e)); simp only at this; omega
  have hftK : ∀ q, q = K.1 ∨ q = K.2.1 ∨ q = K.2.2 → w.heap.size ≤ q := fun q e => by rw [hK] at e; simp only at e; omega
  have hmlt := hlt2 _ (.inl rfl)
  have hmlA := fun q (e : blkOf m1.aA = some q) => hlt2 q (.inr (.inr (.inr (.inr (.inr (.inl e))))))
  clear j2 j3 hK hC1
  go_wp2
  refine wp_region_rg (Exc (DA w2.heap.size m1)) (rel_exc _) (fun V => PoolM B V m1 refs cn' last L ta az fl) [0, 1, 2, 3, 4, 5, 6, 7, 8, 9, 10, 11] (fun i => match i with
    | 7 => some fun _ z V => LitA w2.heap.size K z V
    | _ => none) (fun i => match i with
    | 8 => some fun _ z V => AppA B m1 refs cn' last L ta az fl w2.heap.size (n, b) K z V
    | 11 => some fun _ _ V => FinA B m1 refs cn' last L ta az fl w2.heap.size (n, b) K V
    | _ => none) (fun i => match i with | 4 => true | _ => false) (by kernel_rfl) (by kernel_rfl) (fun _ _ h he => h.ext he) (hM.ext (Below.refl _ _).drew) (fun W N hW hF0 hN => ?_)
  have hEW : Exc (DA w2.heap.size m1) W W := exc_refl _ _
  have hWs := hW.size
  have c0 : ∀ w', Exc (DA w2.heap.size m1) W w' → w'.cell? ⟨w.heap.size, 0, none⟩ = some (.pointer (some ⟨m.p, 0, none⟩)) := fun w' hh => cell_of_row _ _ _ _ _ _ (hh.blk (hW.blk j1) fun e => by
    rcases e.2 with e | e
    · exact blk_ne j1 hM.hd (by decide) e
    · exact own_not hM.ac j1 (by decide) (by rw [ownBlock_eq]; exact e))
  have c4 : ∀ w', Ext W w' → w'.cell? ⟨m.p, 9, none⟩ = some (.slice m1.aA az.length m1.ac) := fun w' hh => by rw [← hp1]; exact (hF0.ext hh).c 9
  have HP1 := Lib.hid hp1
  clear hp1
  repeat (first | (apply wpR_one; (case ho => (simp only [List.getElem?_toArray, List.getElem?_cons_succ, List.getElem?_cons_zero]; try exact rfl)); (case hw => rfl); (case hl => rfl); (case hsp => rfl); (case he => rfl); (case hv => (intro w' hw'; (try (have hw2 := Ext.trans hEW hw')); (try (have hw3 := Exc.trans hEW hw')); (try (have hw4 := Exk.trans hEW hw')); (try (have hw5 := Mrk.trans hEW hw')); go_simp; exact rfl)); (case hw0 => (first | exact Below.refl _ _ | exact Exc.of_ext (Below.refl _ _) | exact Exk.of_ext (Below.refl _ _) | exact Mrk.of_ext (Below.refl _ _))); simp only [Act.put, List.setIfInBounds_toArray, List.set_cons_succ, List.set_cons_zero]) | (apply wpR_early; (case ho => (simp only [List.getElem?_toArray, List.getElem?_cons_succ, List.getElem?_cons_zero]; try exact rfl)); (case hw => rfl); (case hl => rfl); (case hsp => rfl); (case he => rfl); (case hv => (intro w' hw'; (try have hw2 := Ext.trans hEW hw'); go_simp; exact rfl)); simp only [Act.put, List.setIfInBounds_toArray, List.set_cons_succ, List.set_cons_zero]) | (apply wpR_pass; (case ho => (simp only [List.getElem?_toArray, List.getElem?_cons_succ, List.getElem?_cons_zero]; try exact rfl)); (case hw => rfl); (case hl => rfl); simp only [Act.put, List.setIfInBounds_toArray, List.set_cons_succ, List.set_cons_zero]))
  refine wpR_new (by ((simp only [List.getElem?_toArray, List.getElem?_cons_succ, List.getElem?_cons_zero]; try exact rfl))) _ rfl rfl rfl (fun V v => LitA.lasts _ _ _ _) (fun V V' h => rfl) (fun w' hw' hK => ?_) (fun z hz => ?_)
  · have hs := hw'.size
    clear c0 c4
    unfold opAt
    go_simp
    refine upAt_value ⟨ext_alloc _ _, w'.heap.size, rfl, ?_, by omega⟩
    rw [hKv]
    exact heap_alloc_new _ _
  obtain ⟨gl, rfl⟩ : ∃ g, z = .slice (some ⟨g, 0, none⟩) 1 1 := by
    obtain ⟨_, _, _, g, h, _⟩ := hz
    exact ⟨g, h⟩
  clear hz
  simp only [Act.put, List.setIfInBounds_toArray, List.set_cons_succ, List.set_cons_zero]
  refine wpR_late (by ((simp only [List.getElem?_toArray, List.getElem?_cons_succ, List.getElem?_cons_zero]; try exact rfl))) _ rfl rfl (fun V v => AppA.lasts _ _ _ _ _ _ _ _ _ _ _ _ _) (fun V V' h => rfl) (fun w' hw' hK hF => ?_) (fun v hv => ?_)
  · have hF2 : PoolM B w' m1 refs cn' last L ta az fl := hF
    obtain ⟨g3, e3, hb3, _⟩ := (hK 7 (by kernel_rfl)).2
    have hgg : gl = g3 := by simpa using e3
    subst hgg
    have hb3' : w'.heap[gl]? = some (.cells #[actV K] 81 (0, 0)) := hb3
    have hXs := hw'.size
    have hacw := hactk w' ((Exc.of_ext hW).trans hw')
    refine opAt_list rfl #[] (fun Q hQ => ?_)
    refine wpList_append_apart rfl _ _ 72 rfl B 81 iA _ 1 8 Try.underlying72 hiA hzA hsA hbA rfl (by decide) _ az.length _ rfl hF2.ac ⟨gl, 0, none⟩ 1 1 [actV K] rfl rfl (fun j u hj => by rw [Addr.add_lit, cell_of_row _ _ _ _ _ _ hb3', Nat.zero_add]; simpa using hj) (one_act _) (by decide) (by unfold maxLen; omega) (by omega) (by omega) ?_
    intro v' w8 ho8 hc8
    obtain ⟨h8, hx8, A8, c8, rfl, hf8⟩ := hF2.appended ho8 hc8
    have hac8 : ActAt w8 m1.p (n, b) K := ⟨hx8.blk hacw.c1 fun e => own_not hF2.ac hacw.c1 (by decide) (by rw [ownBlock_eq]; exact e), hx8.blk hacw.c2 fun e => own_not hF2.ac hacw.c2 (by decide) (by rw [ownBlock_eq]; exact e), hx8.blk hacw.c3 fun e => own_not hF2.ac hacw.c3 (by decide) (by rw [ownBlock_eq]; exact e)⟩
    refine hQ _ _ ⟨⟨hx8.os, hx8.tape, hx8.output, hx8.size, fun q o ho hn => hx8.block q o ho (fun e => hn ⟨hmlA q e, .inr e⟩)⟩, A8, c8, rfl, h8, ho8, hac8, fun q hq => (hf8 q hq).imp id fun h => by omega⟩
  obtain ⟨A12, c12, rfl⟩ : ∃ A c, v = .slice A (az.length + 1) c := by
    obtain ⟨_, _, A, c, h, _⟩ := hv
    exact ⟨A, c, h⟩
  clear hv
  simp only [Act.put, List.setIfInBounds_toArray, List.set_cons_succ, List.set_cons_zero]
  repeat (first | (apply wpR_one; (case ho => (simp only [List.getElem?_toArray, List.getElem?_cons_succ, List.getElem?_cons_zero]; try exact rfl)); (case hw => rfl); (case hl => rfl); (case hsp => rfl); (case he => rfl); (case hv => (intro w' hw'; (try (have hw2 := Ext.trans hEW hw')); (try (have hw3 := Exc.trans hEW hw')); (try (have hw4 := Exk.trans hEW hw')); (try (have hw5 := Mrk.trans hEW hw')); go_simp; exact rfl)); (case hw0 => (first | exact Below.refl _ _ | exact Exc.of_ext (Below.refl _ _) | exact Exk.of_ext (Below.refl _ _) | exact Mrk.of_ext (Below.refl _ _))); simp only [Act.put, List.setIfInBounds_toArray, List.set_cons_succ, List.set_cons_zero]) | (apply wpR_early; (case ho => (simp only [List.getElem?_toArray, List.getElem?_cons_succ, List.getElem?_cons_zero]; try exact rfl)); (case hw => rfl); (case hl => rfl); (case hsp => rfl); (case he => rfl); (case hv => (intro w' hw'; (try have hw2 := Ext.trans hEW hw'); go_simp; exact rfl)); simp only [Act.put, List.setIfInBounds_toArray, List.set_cons_succ, List.set_cons_zero]) | (apply wpR_pass; (case ho => (simp only [List.getElem?_toArray, List.getElem?_cons_succ, List.getElem?_cons_zero]; try exact rfl)); (case hw => rfl); (case hl => rfl); simp only [Act.put, List.setIfInBounds_toArray, List.set_cons_succ, List.set_cons_zero]))
  refine wpR_late (by ((simp only [List.getElem?_toArray, List.getElem?_cons_succ, List.getElem?_cons_zero]; try exact rfl))) _ rfl rfl (fun V v => FinA.lasts _ _ _ _ _ _ _ _ _ _ _ _) (fun V V' h => rfl) (fun w' hw' hK hF => ?_) (fun v hv => ?_)
  · obtain ⟨A13, c13, e12, hp12, ho12, hc12, hf12⟩ := hF
    have hee : A12 = A13 ∧ c12 = c13 := by simpa using e12
    obtain ⟨rfl, rfl⟩ := hee
    have hbl := hp12.bl
    have hfin : FinA B m1 refs cn' last L ta az fl w2.heap.size (n, b) K (w'.setCell ⟨m1.p, 9, none⟩ (.slice A12 (az ++ [(n, b)]).length c12)) := by
      refine ⟨A12, c12, hp12.setActs (az' := az ++ [(n, b)]) (bs' := m1.bs ++ [K]) ?_ ?_ ?_ ?_, hf12⟩
      · rw [List.map_append]
        simpa using ho12
      · intro i a d ha hd
        by_cases hi : i < az.length
        · rw [List.getElem?_append_left hi] at ha
          rw [List.getElem?_append_left (by omega)] at hd
          exact hp12.cl i a d ha hd
        · rw [List.getElem?_append_right (by omega)] at ha
          rw [List.getElem?_append_right (by omega)] at hd
          have hi0 : i - az.length = 0 := by
            have := (List.getElem?_eq_some_iff.1 ha).1
            simp at this
            omega
          rw [hi0] at ha
          rw [hbl, hi0] at hd
          simp at ha hd
          subst ha hd
          exact hc12
      · intro d hd
        rcases List.mem_append.1 hd with hd | hd
        · exact hp12.sep d hd
        · rcases List.mem_singleton.1 hd
          exact hsK
      · intro d hd
        rcases List.mem_append.1 hd with hd | hd
        · exact hp12.geB d hd
        · rcases List.mem_singleton.1 hd
          exact hgK
    rw [HP1.out, show (az ++ [(n, b)]).length = az.length + 1 by simp] at hfin
    have hxc : Exc (DA w2.heap.size m1) w' (w'.setCell ⟨m.p, 9, none⟩ (.slice A12 (az.length + 1) c12)) := by
      have hx := setCell_excp w' m.p 9 (.slice A12 (az.length + 1) c12)
      exact ⟨hx.os, hx.tape, hx.output, hx.size, fun k o hk hn => hx.block k o hk (fun e => hn ⟨by rw [e, ← HP1.out]; exact hmlt, .inl (by rw [HP1.out]; exact e)⟩)⟩
    have c5 := hp12.c 9
    have f5 := hp12.f 9
    rw [HP1.out] at c5 f5
    simp only [poolC, List.getElem?_toArray, List.getElem?_cons_zero, List.getElem?_cons_succ] at c5
    clear c0 c4 hp12 ho12 hF0 e12 hf12
    unfold opAt
    go_simp
    exact ⟨undef, rfl, hxc, hfin⟩
  clear hv
  simp only [Act.put, List.setIfInBounds_toArray, List.set_cons_succ, List.set_cons_zero]
  apply wpR_nil
  apply hN
  intro w8 hE8 hK hF
  obtain ⟨A14, c14, h8, hf8⟩ : FinA B m1 refs cn' last L ta az fl w2.heap.size (n, b) K w8 := hF
  have hx8 : Exc (fun q _ => m1.foot q) w2 w8 := (Exc.of_ext hW).trans ⟨hE8.os, hE8.tape, hE8.output, hE8.size, fun k o hk hn => hE8.block k o hk (fun e => hn (e.2.elim (fun e => .inl e) (fun e => .inr (.inr (.inr (.inr (.inr (.inl e))))))))⟩
  have hmv3 : Moved m { m1 with aA := A14, ac := c14, bs := m1.bs ++ [K] } w w8 := by
    have hm12 := hmv2.trans (⟨rfl, hx8, fun _ h => .inl h⟩ : Moved m1 m1 w2 w8)
    refine ⟨hm12.p, hm12.x, ?_⟩
    rintro q (hq | hq | hq | hq | hq | hq | ⟨d, hd, hq⟩)
    · exact hmv2.foot q (.inl hq)
    · exact hmv2.foot q (.inr (.inl hq))
    · exact hmv2.foot q (.inr (.inr (.inl hq)))
    · exact hmv2.foot q (.inr (.inr (.inr (.inl hq))))
    · exact hmv2.foot q (.inr (.inr (.inr (.inr (.inl hq)))))
    · rcases hf8 q hq with h | h
      · exact hmv2.foot q (.inr (.inr (.inr (.inr (.inr (.inl h))))))
      · exact .inr (by omega)
    · rcases List.mem_append.1 hd with hd | hd
      · exact hmv2.foot q (.inr (.inr (.inr (.inr (.inr (.inr ⟨d, hd, hq⟩))))))
      · rcases List.mem_singleton.1 hd
        exact .inr (hftK q hq)
  clear hK hN c0 c4 hEW hE8 hW hF0
  go_wp2
  go_end0
  refine ⟨{ m1 with aA := A14, ac := c14, bs := m1.bs ++ [K] }, rfl, ⟨L, ?_, ?_⟩, ?_⟩
  · rw [HCN.out, HTA.out]; exact h8
  · rw [HCN.out]; exact hF
  · exact hmv3
end Go.Proofs.Ytaalhicdeibodaa
